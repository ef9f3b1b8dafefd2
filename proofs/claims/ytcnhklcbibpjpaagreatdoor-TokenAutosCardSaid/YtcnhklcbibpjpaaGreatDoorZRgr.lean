/- Lemmas behind the laws of the tokens; no conditions. -/
import Derived.Test.YtcnhklcbibpjpaaGreatDoorZRgm
import Derived.Deep.RegionHeld3
import Derived.Deep.QuietTactic
import Derived.BigQuiet
import Derived.Lib.AppendStr
import Derived.Deep.DeepMust
set_option linter.unusedVariables false
set_option linter.unusedSimpArgs false

namespace Go.Proofs.YtcnhklcbibpjpaaGreatDoor
open Go.RowKit P Ext PRfa
section
variable {A : World} {s : ByteArray} {m : Int} {ts : List Tk} {fs : List Fr} {al : List Nat} {gl go ga : Option Addr} {cl co ca nl no na : Nat} {w : World}
def topS (fs : List Fr) : Int := match fs.getLast? with | none => 0 | some f => f.1
def topI (fs : List Fr) : Int := match fs.getLast? with | none => 0 | some f => innerF f
theorem rsortG_any (i e a : Int) (h : RO A ts fs al gl cl go co ga ca w) (hl : fs.length ≤ 90000) : Calls Tryz.prog 49 #[lxV s m i (.slice gl nl cl) (.slice go fs.length co) e a (.slice ga na ca)] w fun e' w' =>
      e' = .returned (.int .i64 (topS fs)) ∧ Below w.heap.size w w' := by
  rcases List.eq_nil_or_concat fs with rfl | ⟨fs', f, hfs⟩
  · exact rsort0_any i e a h
  · rw [List.concat_eq_append] at hfs
    subst hfs
    have ht : topS (fs' ++ [f]) = f.1 := by simp [topS]
    have hn : (fs' ++ [f]).length = fs'.length + 1 := by simp
    rw [ht, hn]
    exact rsort_any i e a h (by omega)
theorem rinnerG_any (i : Int) (h : RO A ts fs al gl cl go co ga ca w) (hl : fs.length ≤ 90000) (hp : 0 < fs.length) : Calls Tryz.prog 51 #[lxV s m i (.slice gl nl cl) (.slice go fs.length co) 0 0 (.slice ga na ca)] w fun e' w' =>
      e' = .returned (.int .i64 (topI fs)) ∧ Below w.heap.size w w' := by
  rcases List.eq_nil_or_concat fs with rfl | ⟨fs', f, hfs⟩
  · simp at hp
  · rw [List.concat_eq_append] at hfs
    subst hfs
    have ht : topI (fs' ++ [f]) = if f.2.2.2.1 && f.1 != 2 then f.2.2.2.2 else f.2.2.1 := by simp [topI, innerF]
    have hn : (fs' ++ [f]).length = fs'.length + 1 := by simp
    rw [ht, hn]
    exact rinner_any i (by omega) h
theorem Special_any (c : Nat) (sort : Int) (hG : GlH w) : Calls Tryz.prog 27 #[.int .u8 (c : Int), .int .i64 sort] w fun e w' => e = .returned (.bool (synB c sort)) ∧ Below w.heap.size w w' :=
  (PRqu.idiomref19_Special.calls c sort _ w hG (special_f c sort)).mono fun e w' ⟨he, hb⟩ => ⟨he, hb.below⟩
theorem msgM_eq (i : Nat) : msgM s m i ts fs al = if decide (0 < fs.length) = true ∧ (textE s m (topS fs) (!decide (0 < fs.length)) i).2.1 = s.size then .er 190 (topI fs)
    else .ok (textE s m (topS fs) (!decide (0 < fs.length)) i).2.1 (ts ++ tokL (textE s m (topS fs) (!decide (0 < fs.length)) i).1 i) fs (al ++ (textE s m (topS fs) (!decide (0 < fs.length)) i).2.2) := by
  rcases List.eq_nil_or_concat fs with rfl | ⟨fs', f, hfs⟩
  · simp [msgM, topS, topI]
  · rw [List.concat_eq_append] at hfs
    subst hfs
    simp [msgM, topS, topI]
theorem ext1 (j : Nat) (h : j < s.size) : (s.extract j (j + 1)).data.toList = [s[j]'h] := by
  have h' : j < s.data.toList.length := by simpa using h
  simp only [ByteArray.data_extract, Array.toList_extract, List.extract_eq_take_drop]
  rw [List.drop_eq_getElem_cons h', show j + 1 - j = 1 from by omega]
  rfl
theorem quote_nil {j : Nat} (h39 : ¬ P.b8 s (j + 1) = 39) (h : (quoteE s (j + 1)).1 = []) (hj : j < s.size) : (quoteE s (j + 1)).2 = s.size := by
  have hg := quoteE_ge s (j + 1)
  by_cases h1 : j + 1 < s.size
  · rw [quoteE, dif_pos h1, if_neg h39] at h
    simp at h
  · rw [quoteE, dif_neg h1]
    simp only
    omega
theorem SQ.pushS {fb : Bool} {X : Nat} {i : Int} {w0 W W' : World} {acc : List UInt8} {t : ByteArray} {gb : Option Addr} {cb : Nat} (h : SQ fb A w0 X s m i ts fs al gl cl go co ga ca acc gb cb W) (hA : A.heap.size ≤ w0.heap.size) {v' : Value} (hgrow : W.grownBy W' (Value.slice gb acc.length cb).ownBlock)
    (hown : W'.ownsRow w0.heap.size 5 1 v' (acc.length + t.size) (Lib.byteCells acc ++ Lib.strCells t)) :
    ∃ gb' cb', v' = .slice gb' (acc ++ t.data.toList).length cb' ∧ SQ fb A w0 X s m i ts fs al gl cl go co ga ca (acc ++ t.data.toList) gb' cb' W' := by
  have hts : t.size = t.data.toList.length := by simp
  have hl : (acc ++ t.data.toList).length = acc.length + t.size := by rw [List.length_append, hts]
  have he : Lib.byteCells (acc ++ t.data.toList) = Lib.byteCells acc ++ Lib.strCells t := by simp [Lib.byteCells, Lib.strCells]
  obtain ⟨g', c', rfl⟩ : ∃ g c, v' = .slice g (acc.length + t.size) c := by
    rcases hown.2 with ⟨hv, h0⟩ | ⟨g, cap, cur, hv, _⟩
    · exact ⟨none, 0, by rw [hv, h0]⟩
    · exact ⟨_, _, hv⟩
  refine ⟨g', c', by rw [hl], ⟨⟨⟨?_, ?_, ?_, ?_⟩, ?_, ?_, ?_⟩, by rw [hl, he]; exact hown⟩⟩
  · exact ownsRow_sameN h.sb.ro.tok fun k c fz hk _ => grown_other h.row hgrow hk (by decide)
  · exact ownsRow_sameN h.sb.ro.fr fun k c fz hk _ => grown_other h.row hgrow hk (by decide)
  · exact ownsRow_sameN h.sb.ro.ap fun k c fz hk _ => grown_other h.row hgrow hk (by decide)
  · exact h.sb.ro.bel.grown hgrow h.sb.ro.bel.size (fun k e => by have := (row_own h.row k e).1; omega)
  · exact grown_other h.row hgrow h.sb.bx (by decide)
  · exact grown_other h.row hgrow h.sb.rb (by decide)
  · refine ⟨Nat.le_trans h.sb.kr.size hgrow.size, fun j c T fz hj h1 h2 h3 => ?_⟩
    have hlt := (Array.getElem?_eq_some_iff.1 hj).1
    rw [hgrow.block j (by have := h.sb.kr.size; omega) (fun e' => by have := (row_own h.row j e'.symm).1; omega)]
    exact h.sb.kr.same j c T fz hj h1 h2 h3
theorem SQ.pushAl {X : Nat} {i : Int} {w0 W W' : World} {acc : List UInt8} {gb : Option Addr} {cb : Nat} (h : SQ true A w0 X s m i ts fs al gl cl go co ga ca acc gb cb W) (hA : A.heap.size ≤ X) (h0 : w0.heap.size ≤ X) {v' : Value} {t : Nat} (hgrow : W.grownBy W' (Value.slice ga al.length ca).ownBlock)
    (hown : W'.ownsRow A.heap.size 3 1 v' (al.length + 1) (alCells al ++ [.int .i64 (t : Int)])) :
    ∃ ga' ca', v' = .slice ga' (al ++ [t]).length ca' ∧ Bx X s m i (.slice gl ts.length cl) (.slice go fs.length co) 0 0 (.slice ga al.length ca) W' ∧ SQ true A w0 X s m i ts fs (al ++ [t]) gl cl go co ga' ca' acc gb cb (W'.setCell ⟨X, 7, none⟩ (.slice ga' (al ++ [t]).length ca')) := by
  obtain ⟨ga', ca', e, hro, hk⟩ := h.sb.ro.pushAl (fb := true) hgrow hown
  have hb := h.sb.bx.kr hk
  refine ⟨ga', ca', e, hb, ⟨hro.bx hb hA _ _, hb.set7 _, (h.sb.rb.kr hk).other (by omega) _ _, (h.sb.kr.trans hk).set h0 _ _⟩, ?_⟩
  refine ownsRow_sameN h.row fun k c fz hk2 _ => ?_
  have hk3 := grown_other h.sb.ro.ap hgrow hk2 (by decide)
  rw [Below.heap_setCell _ _ _ _ (fun e' => by dsimp only at e'; subst e'; rw [hb] at hk3; cases hk3)]
  exact hk3
theorem SQ.drewN {fb : Bool} {X : Nat} {i : Int} {w0 W : World} {acc : List UInt8} {gb : Option Addr} {cb : Nat} (h : SQ fb A w0 X s m i ts fs al gl cl go co ga ca acc gb cb W) (k : Nat) : SQ fb A w0 X s m i ts fs al gl cl go co ga ca acc gb cb (W.drewN k) := h.later (Below.drewN' (Below.refl _ W) k)
theorem SQ.drew {fb : Bool} {X : Nat} {i : Int} {w0 W : World} {acc : List UInt8} {gb : Option Addr} {cb : Nat} (h : SQ fb A w0 X s m i ts fs al gl cl go co ga ca acc gb cb W) : SQ fb A w0 X s m i ts fs al gl cl go co ga ca acc gb cb W.drew := h.later (Below.refl _ W).drew
theorem SQ.s9 {fb : Bool} {X : Nat} {i : Int} {w0 W : World} {acc : List UInt8} {gb : Option Addr} {cb : Nat} (h : SQ fb A w0 X s m i ts fs al gl cl go co ga ca acc gb cb W) :
    W.cell? ⟨X, 0, none⟩ = some (.string s) ∧ W.cell? ⟨X, 1, none⟩ = some (.int .i64 m) ∧ W.cell? ⟨X, 2, none⟩ = some (.int .i64 i) ∧ W.cell? ⟨X, 3, none⟩ = some (.slice gl ts.length cl) ∧ W.cell? ⟨X, 4, none⟩ = some (.slice go fs.length co) ∧ W.cell? ⟨X, 5, none⟩ = some (.int .i64 0) ∧ W.cell? ⟨X, 6, none⟩ = some (.int .i64 0) ∧ W.cell? ⟨X, 7, none⟩ = some (.slice ga al.length ca) ∧ SQ fb A w0 X s m i ts fs al gl cl go co ga ca acc gb cb W := by
  obtain ⟨h0, h1, h2, h3, h4, h5, h6, h7⟩ := h.sb.bx.cells
  exact ⟨h0, h1, h2, h3, h4, h5, h6, h7, h⟩
theorem SQ.next {X : Nat} {i i2 : Int} {w0 W W2 W3 : World} {acc : List UInt8} {gb : Option Addr} {cb : Nat} {gl2 go2 ga2 : Option Addr} {cl2 co2 ca2 : Nat} (h : SQ true A w0 X s m i ts fs al gl cl go co ga ca acc gb cb W) (hA : A.heap.size ≤ X) (h0 : w0.heap.size ≤ X)
    (hro : RO A ts fs al gl2 cl2 go2 co2 ga2 ca2 W2) (hk : KR false W W2) (f : Fl X W2 W3) (hx : Bx X s m i2 (.slice gl2 ts.length cl2) (.slice go2 fs.length co2) 0 0 (.slice ga2 al.length ca2) W3) : SQ true A w0 X s m i2 ts fs al gl2 cl2 go2 co2 ga2 ca2 acc gb cb W3 := by
  refine ⟨h.sb.next hA h0 hro hk.mono f hx, ?_⟩
  refine ownsRow_sameN h.row fun k c fz hk2 _ => ?_
  have hk3 := hk.same _ _ _ _ hk2 (by decide) (fun e => by cases e) (by decide)
  have hb := h.sb.bx.kr hk
  rw [f.same k (fun e' => by subst e'; rw [hb] at hk3; cases hk3)]
  exact hk3
set_option maxRecDepth 100000 in
set_option maxHeartbeats 100000000 in
theorem rmsg_any (i : Nat) (hG : GlH A) (hz : s.size ≤ 90000) (hi : i ≤ s.size) (hl : ts.length ≤ 79000) (hf : fs.length ≤ 79000) (hal : al.length ≤ i) (h : RO A ts fs al gl cl go co ga ca w) :
    Calls Tryz.prog 31 #[lxV s m (i : Int) (.slice gl ts.length cl) (.slice go fs.length co) 0 0 (.slice ga al.length ca)] w fun e w' =>
      ∃ v, e = .returned v ∧ RM A s m w (msgM s m i ts fs al) v w' := by
  obtain ⟨nb, hnb⟩ : ∃ nb : Bool, decide (0 < fs.length) = nb := ⟨_, rfl⟩
  obtain ⟨sort, hsort⟩ : ∃ k, topS fs = k := ⟨_, rfl⟩
  have HM := Lib.hid (msgM_eq (s := s) (m := m) (ts := ts) (fs := fs) (al := al) i)
  rw [hnb, hsort] at HM
  have HNB := Lib.hid hnb
  have HSO := Lib.hid hsort
  have hnb2 : decide ((0 : Int) < (fs.length : Int)) = nb := by rw [← hnb, decide_eq_decide]; omega
  clear hsort
  obtain ⟨HS0, hA⟩ := boxes_sb (s := s) (m := m) true i h
  have hsz : (boxes s m (i : Int) (.slice gl ts.length cl) (.slice go fs.length co) 0 0 (.slice ga al.length ca) w).heap.size = w.heap.size + 1 + 1 := by simp [boxes]
  have hrow := World.ownsRow_made (base := w.heap.size) (e := 5) (size := 1) (boxes s m (i : Int) (.slice gl ts.length cl) (.slice go fs.length co) 0 0 (.slice ga al.length ca) w) #[] 0 (by rw [hsz]; omega) (by decide) rfl
  have HS : SQ true A w w.heap.size s m (i : Int) ts fs al gl cl go co ga ca [] (some ⟨w.heap.size + 1 + 1, 0, none⟩) 0 ((boxes s m (i : Int) (.slice gl ts.length cl) (.slice go fs.length co) 0 0 (.slice ga al.length ca) w).alloc (.cells #[] 5)) := by
    rw [hsz] at hrow
    exact ⟨HS0.later ((Below.refl _ _).alloc (Nat.le_refl _) _), hrow⟩
  clear HS0 hrow hsz
  go_enter Tryz.func31, Tryz.ntmps31
  go_wp2_with fail
  refine (?_ : Code.wp _ _ _ _ ((boxes s m (i : Int) (.slice gl ts.length cl) (.slice go fs.length co) 0 0 (.slice ga al.length ca) w).alloc (.cells #[] 5)))
  generalize (boxes s m (i : Int) (.slice gl ts.length cl) (.slice go fs.length co) 0 0 (.slice ga al.length ca) w).alloc (.cells #[] 5) = W1 at *
  clear hnb2 hnb
  have hne : w.heap.size ≠ w.heap.size + 1 := by omega
  go_loopw [3, 4] (fun v3 v4 wr => ∃ (j a : Nat) (acc : List UInt8) (al2 : List Nat) (gb ga2 gl go : Option Addr) (cb ca2 cl co : Nat), v3 = .slice gb acc.length cb ∧ v4 = .int .i64 (a : Int) ∧ i ≤ j ∧ j ≤ s.size ∧ acc.length ≤ j ∧ al2.length + i ≤ j ∧ Hid (acc = [] → j = i ∨ j = s.size) ∧ Hid (acc ≠ [] → a = i) ∧ Hid (textE s m sort (!nb) i = (acc ++ (textE s m sort (!nb) j).1, (textE s m sort (!nb) j).2.1, al2 ++ (textE s m sort (!nb) j).2.2)) ∧ SQ true A w w.heap.size s m (j : Int) ts fs (al ++ al2) gl cl go co ga2 ca2 acc gb cb wr) (fun _ _ wr => s.size - posOf w.heap.size wr)
  case atStart => exact ⟨i, 0, [], [], _, ga, gl, go, 0, ca, cl, co, rfl, rfl, Nat.le_refl _, hi, by simp, by simp, Lib.hid (fun _ => .inl rfl), Lib.hid (fun h => absurd rfl h), Lib.hid (by simp), by rw [List.append_nil]; exact HS⟩
  case round =>
    obtain ⟨j, a, acc, al2, gb, ga2, gl, go, cb, ca2, cl, co, rfl, rfl, hij, hjs, hac, hal2, HE0, HA0, HW, HS1⟩ := hrel
    clear HS
    have hal3 : (al ++ al2).length ≤ j := by rw [List.length_append]; omega
    generalize hal4 : al ++ al2 = al3 at *
    have HAL := Lib.hid hal4
    have HL2 := Lib.hid hal2
    clear hal4 hal hal2
    obtain ⟨d0, d1, d2, d3, d4, d5, d6, d7⟩ := HS1.sb.bx.cells; have df := HS1.sb.bx.free
    have HE := Lib.hid (fun (W : World) => rends_any (s := s) (m := m) (gl := gl) (nl := ts.length) (cl := cl) (go := go) (no := fs.length) (co := co) (ga := ga2) (na := al3.length) (ca := ca2) (w := W) j 0 0)
    obtain ⟨ts3, hts3⟩ : ∃ x, ts ++ tokL acc i = x := ⟨_, rfl⟩
    have HTS := Lib.hid hts3
    clear hts3
    by_cases hlt : j < s.size
    rotate_left
    focus
      have eE : decide (s.size ≤ j) = true := by simp; omega
      have HF : Hid (textE s m sort (!nb) i = (acc, j, al2)) := Lib.hid (by rw [HW.out, show textE s m sort (!nb) j = ([], j, []) from by rw [textE, dif_neg hlt]]; simp)
      have hjn : j = s.size := by omega
      have HJN := Lib.hid hjn
      clear hjn
      by_cases hac0 : acc = []
      · have ea : decide (0 < acc.length) = false := by subst hac0; rfl
        have ea2 : ¬ 0 < acc.length := by subst hac0; simp
        have hts : ts3 = ts := by rw [← HTS.out, hac0]; simp [tokL]
        have HT3 := Lib.hid hts
        clear hts hac0
        cases nb with
        | true =>
          have HR : Hid (msgM s m i ts fs al = .er 190 (topI fs)) := Lib.hid (by rw [HM.out, HF.out]; exact if_pos ⟨rfl, HJN.out⟩)
          have hpos : 0 < fs.length := of_decide_eq_true HNB.out
          go_wp2_with (go_at_call 32; refine (HE.out _).mono ?_; rintro e' W2 ⟨rfl, hb2⟩; have HS2 := HS1.later hb2; clear d0 d1 d2 d3 d4 d5 d6 d7 df; obtain ⟨d0, d1, d2, d3, d4, d5, d6, d7⟩ := HS2.sb.bx.cells; have df := HS2.sb.bx.free)
          have HS5 := HS2.sb
          have HIN := Lib.hid (fun (W : World) (h : RO A ts fs al3 gl cl go co ga2 ca2 W) => rinnerG_any (s := s) (m := m) (nl := ts.length) (na := al3.length) (w := W) ((j : Nat) : Int) h (by omega) hpos)
          have HFA := Lib.hid (fun (W : World) (h : RO A ts fs al3 gl cl go co ga2 ca2 W) => rfails_any (s := s) (m := m) ((j : Nat) : Int) 190 (topI fs) h)
          go_region_with (first
            | (go_at_call 51; refine (HIN.out _ HS5.drew.ro).mono ?_; rintro e' W6 ⟨rfl, hb6⟩; have HS6 := HS5.drew.later hb6; clear d0 d1 d2 d3 d4 d5 d6 d7 df; obtain ⟨d0, d1, d2, d3, d4, d5, d6, d7⟩ := HS6.bx.cells; have df := HS6.bx.free)
            | (go_at_call 44; refine (HFA.out _ HS6.ro).mono ?_; rintro e' W7 ⟨v, rfl, gl7, cl7, go7, co7, ga7, ca7, rfl, hro7, hk7⟩; have hrb7 := HS6.rb.kr hk7; obtain ⟨q0, q1, q2, q3, q4, q5, q6, q7⟩ := hrb7.cells; have qf := hrb7.free))
          all_goals
            go_wp2_with fail
            refine (?_ : bodyPost _ _ _ _ _ (fill8 (w.heap.size + 1) s m ((j : Nat) : Int) (.slice gl7 ts.length cl7) (.slice go7 fs.length co7) 190 (topI fs) (.slice ga7 al3.length ca7) W7))
            obtain ⟨f1, f2, f3⟩ := fin8 (fb := true) s m ((j : Nat) : Int) (.slice gl7 ts.length cl7) (.slice go7 fs.length co7) 190 (topI fs) (.slice ga7 al3.length ca7) hro7 hrb7 (HS6.kr.trans hk7.mono) (by omega) (by omega)
            refine bodyPost_ret (bx_ret rfl rfl f1) rfl ?_
            refine ⟨_, rfl, ?_⟩
            rw [HR.out]
            exact ⟨_, _, _, _, gl7, cl7, go7, co7, ga7, ca7, rfl, f2, f3⟩
        | false =>
          have HR : Hid (msgM s m i ts fs al = .ok j ts fs al3) := Lib.hid (by rw [HM.out, HF.out, if_neg (fun h => by cases h.1)]; simp only; rw [HTS.out, HT3.out, HAL.out])
          go_wp2_with (first
            | (go_at_call 32; refine (HE.out _).mono ?_; rintro e' W2 ⟨rfl, hb2⟩; have HS2 := HS1.later hb2; clear d0 d1 d2 d3 d4 d5 d6 d7 df; obtain ⟨d0, d1, d2, d3, d4, d5, d6, d7⟩ := HS2.sb.bx.cells; have df := HS2.sb.bx.free)
            | (with_reducible refine gate_lx (p := 2) rfl ?_; refine wp_fill HS2.sb.rb rfl rfl rfl rfl rfl ?_; intro W6 f6 hr6))
          refine bodyPost_ret (bx_ret rfl rfl hr6) rfl ?_
          refine ⟨_, rfl, ?_⟩
          rw [HR.out]
          exact ⟨gl, cl, go, co, ga2, ca2, rfl, HS2.sb.ro.fl HS2.sb.rb f6 (by omega), HS2.sb.kr.fl f6 (by omega)⟩
      · have ea2 : 0 < acc.length := List.length_pos_iff.2 hac0
        have ea : decide (0 < acc.length) = true := decide_eq_true ea2
        cases nb with
        | true =>
          have HR : Hid (msgM s m i ts fs al = .er 190 (topI fs)) := Lib.hid (by rw [HM.out, HF.out]; exact if_pos ⟨rfl, HJN.out⟩)
          have hpos : 0 < fs.length := of_decide_eq_true HNB.out
          go_wp2_with (go_at_call 32; refine (HE.out _).mono ?_; rintro e' W2 ⟨rfl, hb2⟩; have HS2 := HS1.later hb2; clear d0 d1 d2 d3 d4 d5 d6 d7 df; obtain ⟨d0, d1, d2, d3, d4, d5, d6, d7⟩ := HS2.sb.bx.cells; have df := HS2.sb.bx.free; have hcv := HS2.text)
          have hput := rput_any (s := s) (m := m) (j : Nat) 1 (⟨acc.toArray⟩ : ByteArray) (a : Nat) HS2.sb.ro (by omega)
          rw [show ts ++ [(1, (⟨acc.toArray⟩ : ByteArray), ((a : Nat) : Int))] = ts3 from by rw [← HTS.out, HA0.out hac0, tokL, if_neg (by simpa using hac0)]] at hput
          refine hput.mono ?_
          clear hput
          rintro e' W4 ⟨v, rfl, gl4, cl4, go4, co4, ga4, ca4, rfl, hro4, hk4⟩
          go_wp2_with (with_reducible refine gate_lx (p := 1) rfl ?_; refine wp_fill (HS2.sb.bx.kr hk4) rfl rfl rfl rfl rfl ?_; intro W5 f5 hx5; have HS5 := HS2.sb.next hA (Nat.le_refl _) hro4 hk4.mono f5 hx5; clear d0 d1 d2 d3 d4 d5 d6 d7 df; obtain ⟨d0, d1, d2, d3, d4, d5, d6, d7⟩ := HS5.bx.cells; have df := HS5.bx.free)
          have HIN := Lib.hid (fun (W : World) (h : RO A ts3 fs al3 gl4 cl4 go4 co4 ga4 ca4 W) => rinnerG_any (s := s) (m := m) (nl := ts3.length) (na := al3.length) (w := W) ((j : Nat) : Int) h (by omega) hpos)
          have HFA := Lib.hid (fun (W : World) (h : RO A ts3 fs al3 gl4 cl4 go4 co4 ga4 ca4 W) => rfails_any (s := s) (m := m) ((j : Nat) : Int) 190 (topI fs) h)
          go_region_with (first
            | (go_at_call 51; refine (HIN.out _ HS5.drew.ro).mono ?_; rintro e' W6 ⟨rfl, hb6⟩; have HS6 := HS5.drew.later hb6; clear d0 d1 d2 d3 d4 d5 d6 d7 df; obtain ⟨d0, d1, d2, d3, d4, d5, d6, d7⟩ := HS6.bx.cells; have df := HS6.bx.free)
            | (go_at_call 44; refine (HFA.out _ HS6.ro).mono ?_; rintro e' W7 ⟨v, rfl, gl7, cl7, go7, co7, ga7, ca7, rfl, hro7, hk7⟩; have hrb7 := HS6.rb.kr hk7; obtain ⟨q0, q1, q2, q3, q4, q5, q6, q7⟩ := hrb7.cells; have qf := hrb7.free))
          all_goals
            go_wp2_with fail
            refine (?_ : bodyPost _ _ _ _ _ (fill8 (w.heap.size + 1) s m ((j : Nat) : Int) (.slice gl7 ts3.length cl7) (.slice go7 fs.length co7) 190 (topI fs) (.slice ga7 al3.length ca7) W7))
            obtain ⟨f1, f2, f3⟩ := fin8 (fb := true) s m ((j : Nat) : Int) (.slice gl7 ts3.length cl7) (.slice go7 fs.length co7) 190 (topI fs) (.slice ga7 al3.length ca7) hro7 hrb7 (HS6.kr.trans hk7.mono) (by omega) (by omega)
            refine bodyPost_ret (bx_ret rfl rfl f1) rfl ?_
            refine ⟨_, rfl, ?_⟩
            rw [HR.out]
            exact ⟨_, _, _, _, gl7, cl7, go7, co7, ga7, ca7, rfl, f2, f3⟩
        | false =>
          have HR : Hid (msgM s m i ts fs al = .ok j ts3 fs al3) := Lib.hid (by rw [HM.out, HF.out, if_neg (fun h => by cases h.1)]; simp only; rw [HTS.out, HAL.out])
          go_wp2_with (go_at_call 32; refine (HE.out _).mono ?_; rintro e' W2 ⟨rfl, hb2⟩; have HS2 := HS1.later hb2; clear d0 d1 d2 d3 d4 d5 d6 d7 df; obtain ⟨d0, d1, d2, d3, d4, d5, d6, d7⟩ := HS2.sb.bx.cells; have df := HS2.sb.bx.free; have hcv := HS2.text)
          have hput := rput_any (s := s) (m := m) (j : Nat) 1 (⟨acc.toArray⟩ : ByteArray) (a : Nat) HS2.sb.ro (by omega)
          rw [show ts ++ [(1, (⟨acc.toArray⟩ : ByteArray), ((a : Nat) : Int))] = ts3 from by rw [← HTS.out, HA0.out hac0, tokL, if_neg (by simpa using hac0)]] at hput
          refine hput.mono ?_
          clear hput
          rintro e' W4 ⟨v, rfl, gl4, cl4, go4, co4, ga4, ca4, rfl, hro4, hk4⟩
          go_wp2_with (first
            | (with_reducible refine gate_lx (p := 1) rfl ?_; refine wp_fill (HS2.sb.bx.kr hk4) rfl rfl rfl rfl rfl ?_; intro W5 f5 hx5; have HS5 := HS2.sb.next hA (Nat.le_refl _) hro4 hk4.mono f5 hx5; clear d0 d1 d2 d3 d4 d5 d6 d7 df; obtain ⟨d0, d1, d2, d3, d4, d5, d6, d7⟩ := HS5.bx.cells; have df := HS5.bx.free)
            | (with_reducible refine gate_lx (p := 2) rfl ?_; refine wp_fill HS5.rb rfl rfl rfl rfl rfl ?_; intro W6 f6 hr6))
          refine bodyPost_ret (bx_ret rfl rfl hr6) rfl ?_
          refine ⟨_, rfl, ?_⟩
          rw [HR.out]
          exact ⟨gl4, cl4, go4, co4, ga4, ca4, rfl, HS5.ro.fl HS5.rb f6 (by omega), HS5.kr.fl f6 (by omega)⟩
    rotate_right
    have eE : decide (s.size ≤ j) = false := by simp; omega
    have hlt' : (j : Int) < s.size := by omega
    have hj0 : (0 : Int) ≤ (j : Int) := by omega
    have q1 : (0 : Int) ≤ (j : Int) + 1 := by omega
    have q2 : (j : Int) + 1 ≤ s.size := by omega
    have q3 : (j : Int) ≤ (j : Int) + 1 := by omega
    have t1 : ((j : Int) + 1).toNat = j + 1 := by omega
    have eS1 : IntKind.i64.wrap ((j : Int) + 1) = (j : Int) + 1 := by rw [IntWalk.i64_in _ (by omega)]
    have eS2 : IntKind.i64.wrap ((j : Int) + 2) = (j : Int) + 2 := by rw [IntWalk.i64_in _ (by omega)]
    have HB8 := Lib.hid (b8_at s j hlt)
    have HTE : Hid (textE s m sort (!nb) j = if P.b8 s j = 39 then ((aposE s m sort j).1 ++ (textE s m sort (!nb) (aposE s m sort j).2.1).1, (textE s m sort (!nb) (aposE s m sort j).2.1).2.1, (aposE s m sort j).2.2 ++ (textE s m sort (!nb) (aposE s m sort j).2.1).2.2)
      else if synB (P.b8 s j) sort && !((!nb) && P.b8 s j == 125) then ([], j, [])
      else (s[j]'hlt :: (textE s m sort (!nb) (j + 1)).1, (textE s m sort (!nb) (j + 1)).2)) := Lib.hid (by rw [textE, dif_pos hlt])
    go_wp2_with (go_at_call 32; refine (HE.out _).mono ?_; rintro e' W2 ⟨rfl, hb2⟩; have HS2 := HS1.later hb2; clear d0 d1 d2 d3 d4 d5 d6 d7 df; obtain ⟨d0, d1, d2, d3, d4, d5, d6, d7⟩ := HS2.sb.bx.cells; have df := HS2.sb.bx.free)
    go_quiet (fail)
    have HS3 := HS2.drewN nq
    generalize W2.drewN nq = W3 at *
    clear hb2
    clear d0 d1 d2 d3 d4 d5 d6 d7 df; obtain ⟨d0, d1, d2, d3, d4, d5, d6, d7⟩ := HS3.sb.bx.cells; have df := HS3.sb.bx.free
    by_cases hstop : ¬ P.b8 s j = 39 ∧ (synB (P.b8 s j) sort && !((!nb) && P.b8 s j == 125)) = true
    · skip
      have HF : Hid (textE s m sort (!nb) i = (acc, j, al2)) := Lib.hid (by rw [HW.out, HTE.out, if_neg hstop.1, if_pos hstop.2]; simp)
      have HMC : Hid (msgM s m i ts fs al = .ok j ts3 fs al3) := Lib.hid (by rw [HM.out, HF.out, if_neg (fun h => by have h2 : j = s.size := h.2; omega)]; simp only; rw [HTS.out, HAL.out])
      obtain ⟨nx, hnx⟩ : ∃ nx : Bool, decide ((j : Int) + 1 < (s.size : Int)) = nx := ⟨_, rfl⟩
      have h39 : ¬ (s[j]'hlt).toNat = 39 := fun e => hstop.1 (HB8.out.trans e)
      have eC : (((s[j]'hlt).toNat : Int) == 39) = false := by simp; omega
      have HST := Lib.hid hstop.2
      clear hstop
      by_cases h123 : (s[j]'hlt).toNat = 123
      · have e123 : (((s[j]'hlt).toNat : Int) == 123) = true := by simp; omega
        go_wp2_with fail
        go_quiet (fail)
        have HS4 := HS3.drewN nq
        generalize W3.drewN nq = W4 at *
        clear d0 d1 d2 d3 d4 d5 d6 d7 df; obtain ⟨d0, d1, d2, d3, d4, d5, d6, d7⟩ := HS4.sb.bx.cells; have df := HS4.sb.bx.free
        by_cases hac0 : acc = []
        · have ea : decide (0 < acc.length) = false := by subst hac0; rfl
          have ea2 : ¬ 0 < acc.length := by subst hac0; simp
          have hts : ts3 = ts := by rw [← HTS.out, hac0]; simp [tokL]
          have HT3 := Lib.hid hts
          clear hts hac0
          have HR : Hid (msgM s m i ts fs al = .ok j ts fs al3) := Lib.hid (by rw [HMC.out, HT3.out])
          go_wp2_with (with_reducible refine gate_lx (p := 2) rfl ?_; refine wp_fill HS4.sb.rb rfl rfl rfl rfl rfl ?_; intro W8 f8 hr8)
          refine bodyPost_ret (bx_ret rfl rfl hr8) rfl ?_
          refine ⟨_, rfl, ?_⟩
          rw [HR.out]
          exact ⟨gl, cl, go, co, ga2, ca2, rfl, HS4.sb.ro.fl HS4.sb.rb f8 (by omega), HS4.sb.kr.fl f8 (by omega)⟩
        · have ea2 : 0 < acc.length := List.length_pos_iff.2 hac0
          have ea : decide (0 < acc.length) = true := decide_eq_true ea2
          have HR : Hid (msgM s m i ts fs al = .ok j ts3 fs al3) := HMC
          have hcv := HS4.text
          go_wp2_with fail
          have hput := rput_any (s := s) (m := m) (j : Nat) 1 (⟨acc.toArray⟩ : ByteArray) (a : Nat) HS4.sb.ro (by omega)
          rw [show ts ++ [(1, (⟨acc.toArray⟩ : ByteArray), ((a : Nat) : Int))] = ts3 from by rw [← HTS.out, HA0.out hac0, tokL, if_neg (by simpa using hac0)]] at hput
          refine hput.mono ?_
          clear hput
          rintro e' W4 ⟨v, rfl, gl4, cl4, go4, co4, ga4, ca4, rfl, hro4, hk4⟩
          go_wp2_with (first
            | (with_reducible refine gate_lx (p := 1) rfl ?_; refine wp_fill (HS4.sb.bx.kr hk4) rfl rfl rfl rfl rfl ?_; intro W7 f7 hx7; have HS7 := HS4.sb.next hA (Nat.le_refl _) hro4 hk4.mono f7 hx7; clear d0 d1 d2 d3 d4 d5 d6 d7 df; obtain ⟨d0, d1, d2, d3, d4, d5, d6, d7⟩ := HS7.bx.cells; have df := HS7.bx.free)
            | (with_reducible refine gate_lx (p := 2) rfl ?_; refine wp_fill HS7.rb rfl rfl rfl rfl rfl ?_; intro W8 f8 hr8))
          refine bodyPost_ret (bx_ret rfl rfl hr8) rfl ?_
          refine ⟨_, rfl, ?_⟩
          rw [HR.out]
          exact ⟨gl4, cl4, go4, co4, ga4, ca4, rfl, HS7.ro.fl HS7.rb f8 (by omega), HS7.kr.fl f8 (by omega)⟩
      · have e123 : (((s[j]'hlt).toNat : Int) == 123) = false := by simp; omega
        by_cases h125 : (s[j]'hlt).toNat = 125
        · have e125 : (((s[j]'hlt).toNat : Int) == 125) = true := by simp; omega
          have e125' : (((s[j]'hlt).toNat : Int) != 125) = false := by simp; omega
          have hnt : nb = true := by
            have h2 := HST.out
            rw [HB8.out, h125] at h2
            cases nb with
            | true => rfl
            | false => simp at h2
          subst hnt
          go_wp2_with fail
          go_quiet (fail)
          have HS4 := HS3.drewN nq
          generalize W3.drewN nq = W4 at *
          clear d0 d1 d2 d3 d4 d5 d6 d7 df; obtain ⟨d0, d1, d2, d3, d4, d5, d6, d7⟩ := HS4.sb.bx.cells; have df := HS4.sb.bx.free
          by_cases hac0 : acc = []
          · have ea : decide (0 < acc.length) = false := by subst hac0; rfl
            have ea2 : ¬ 0 < acc.length := by subst hac0; simp
            have hts : ts3 = ts := by rw [← HTS.out, hac0]; simp [tokL]
            have HT3 := Lib.hid hts
            clear hts hac0
            have HR : Hid (msgM s m i ts fs al = .ok j ts fs al3) := Lib.hid (by rw [HMC.out, HT3.out])
            go_wp2_with (with_reducible refine gate_lx (p := 2) rfl ?_; refine wp_fill HS4.sb.rb rfl rfl rfl rfl rfl ?_; intro W8 f8 hr8)
            refine bodyPost_ret (bx_ret rfl rfl hr8) rfl ?_
            refine ⟨_, rfl, ?_⟩
            rw [HR.out]
            exact ⟨gl, cl, go, co, ga2, ca2, rfl, HS4.sb.ro.fl HS4.sb.rb f8 (by omega), HS4.sb.kr.fl f8 (by omega)⟩
          · have ea2 : 0 < acc.length := List.length_pos_iff.2 hac0
            have ea : decide (0 < acc.length) = true := decide_eq_true ea2
            have HR : Hid (msgM s m i ts fs al = .ok j ts3 fs al3) := HMC
            have hcv := HS4.text
            go_wp2_with fail
            have hput := rput_any (s := s) (m := m) (j : Nat) 1 (⟨acc.toArray⟩ : ByteArray) (a : Nat) HS4.sb.ro (by omega)
            rw [show ts ++ [(1, (⟨acc.toArray⟩ : ByteArray), ((a : Nat) : Int))] = ts3 from by rw [← HTS.out, HA0.out hac0, tokL, if_neg (by simpa using hac0)]] at hput
            refine hput.mono ?_
            clear hput
            rintro e' W4 ⟨v, rfl, gl4, cl4, go4, co4, ga4, ca4, rfl, hro4, hk4⟩
            go_wp2_with (first
              | (with_reducible refine gate_lx (p := 1) rfl ?_; refine wp_fill (HS4.sb.bx.kr hk4) rfl rfl rfl rfl rfl ?_; intro W7 f7 hx7; have HS7 := HS4.sb.next hA (Nat.le_refl _) hro4 hk4.mono f7 hx7; clear d0 d1 d2 d3 d4 d5 d6 d7 df; obtain ⟨d0, d1, d2, d3, d4, d5, d6, d7⟩ := HS7.bx.cells; have df := HS7.bx.free)
              | (with_reducible refine gate_lx (p := 2) rfl ?_; refine wp_fill HS7.rb rfl rfl rfl rfl rfl ?_; intro W8 f8 hr8))
            refine bodyPost_ret (bx_ret rfl rfl hr8) rfl ?_
            refine ⟨_, rfl, ?_⟩
            rw [HR.out]
            exact ⟨gl4, cl4, go4, co4, ga4, ca4, rfl, HS7.ro.fl HS7.rb f8 (by omega), HS7.kr.fl f8 (by omega)⟩
        · have e125 : (((s[j]'hlt).toNat : Int) == 125) = false := by simp; omega
          have e125' : (((s[j]'hlt).toNat : Int) != 125) = true := by simp; omega
          have hsy : synB (s[j]'hlt).toNat sort = true := by
            have h2 := HST.out
            rw [HB8.out, Bool.and_eq_true] at h2
            exact h2.1
          have HSC := Lib.hid (fun (W : World) (h : RO A ts fs al3 gl cl go co ga2 ca2 W) => by have h2 := rsortG_any (s := s) (m := m) (nl := ts.length) (na := al3.length) (w := W) (j : Int) 0 0 h (by omega); rw [HSO.out] at h2; exact h2)
          have HSP := Lib.hid (fun (W : World) (hG : GlH W) => by have h2 := Special_any (w := W) ((s[j]'hlt).toNat) sort hG; rw [hsy] at h2; exact h2)
          clear hsy
          go_wp2_with fail
          go_quiet (fail)
          have HS4 := HS3.drewN nq
          generalize W3.drewN nq = W4 at *
          clear d0 d1 d2 d3 d4 d5 d6 d7 df; obtain ⟨d0, d1, d2, d3, d4, d5, d6, d7⟩ := HS4.sb.bx.cells; have df := HS4.sb.bx.free
          by_cases hac0 : acc = []
          · have ea : decide (0 < acc.length) = false := by subst hac0; rfl
            have ea2 : ¬ 0 < acc.length := by subst hac0; simp
            have hts : ts3 = ts := by rw [← HTS.out, hac0]; simp [tokL]
            have HT3 := Lib.hid hts
            clear hts hac0
            have HR : Hid (msgM s m i ts fs al = .ok j ts fs al3) := Lib.hid (by rw [HMC.out, HT3.out])
            go_wp2_with (first
              | (go_at_call 49; refine (HSC.out _ HS4.sb.ro).mono ?_; rintro e' W5 ⟨rfl, hb5⟩; have HS5 := HS4.later hb5; clear d0 d1 d2 d3 d4 d5 d6 d7 df; obtain ⟨d0, d1, d2, d3, d4, d5, d6, d7⟩ := HS5.sb.bx.cells; have df := HS5.sb.bx.free)
              | (go_at_call 27; refine (HSP.out _ (HS5.sb.ro.glh hG)).mono ?_; rintro e' W6 ⟨rfl, hb6⟩; have HS6 := HS5.later hb6; clear d0 d1 d2 d3 d4 d5 d6 d7 df; obtain ⟨d0, d1, d2, d3, d4, d5, d6, d7⟩ := HS6.sb.bx.cells; have df := HS6.sb.bx.free)
              | (with_reducible refine gate_lx (p := 2) rfl ?_; refine wp_fill HS6.sb.rb rfl rfl rfl rfl rfl ?_; intro W8 f8 hr8))
            refine bodyPost_ret (bx_ret rfl rfl hr8) rfl ?_
            refine ⟨_, rfl, ?_⟩
            rw [HR.out]
            exact ⟨gl, cl, go, co, ga2, ca2, rfl, HS6.sb.ro.fl HS6.sb.rb f8 (by omega), HS6.sb.kr.fl f8 (by omega)⟩
          · have ea2 : 0 < acc.length := List.length_pos_iff.2 hac0
            have ea : decide (0 < acc.length) = true := decide_eq_true ea2
            have HR : Hid (msgM s m i ts fs al = .ok j ts3 fs al3) := HMC
            go_wp2_with (first
              | (go_at_call 49; refine (HSC.out _ HS4.sb.ro).mono ?_; rintro e' W5 ⟨rfl, hb5⟩; have HS5 := HS4.later hb5; clear d0 d1 d2 d3 d4 d5 d6 d7 df; obtain ⟨d0, d1, d2, d3, d4, d5, d6, d7⟩ := HS5.sb.bx.cells; have df := HS5.sb.bx.free)
              | (go_at_call 27; refine (HSP.out _ (HS5.sb.ro.glh hG)).mono ?_; rintro e' W6 ⟨rfl, hb6⟩; have HS6 := HS5.later hb6; clear d0 d1 d2 d3 d4 d5 d6 d7 df; obtain ⟨d0, d1, d2, d3, d4, d5, d6, d7⟩ := HS6.sb.bx.cells; have df := HS6.sb.bx.free; have hcv := HS6.text))
            have hput := rput_any (s := s) (m := m) (j : Nat) 1 (⟨acc.toArray⟩ : ByteArray) (a : Nat) HS6.sb.ro (by omega)
            rw [show ts ++ [(1, (⟨acc.toArray⟩ : ByteArray), ((a : Nat) : Int))] = ts3 from by rw [← HTS.out, HA0.out hac0, tokL, if_neg (by simpa using hac0)]] at hput
            refine hput.mono ?_
            clear hput
            rintro e' W4 ⟨v, rfl, gl4, cl4, go4, co4, ga4, ca4, rfl, hro4, hk4⟩
            go_wp2_with (first
              | (with_reducible refine gate_lx (p := 1) rfl ?_; refine wp_fill (HS6.sb.bx.kr hk4) rfl rfl rfl rfl rfl ?_; intro W7 f7 hx7; have HS7 := HS6.sb.next hA (Nat.le_refl _) hro4 hk4.mono f7 hx7; clear d0 d1 d2 d3 d4 d5 d6 d7 df; obtain ⟨d0, d1, d2, d3, d4, d5, d6, d7⟩ := HS7.bx.cells; have df := HS7.bx.free)
              | (with_reducible refine gate_lx (p := 2) rfl ?_; refine wp_fill HS7.rb rfl rfl rfl rfl rfl ?_; intro W8 f8 hr8))
            refine bodyPost_ret (bx_ret rfl rfl hr8) rfl ?_
            refine ⟨_, rfl, ?_⟩
            rw [HR.out]
            exact ⟨gl4, cl4, go4, co4, ga4, ca4, rfl, HS7.ro.fl HS7.rb f8 (by omega), HS7.kr.fl f8 (by omega)⟩
    obtain ⟨i0, hii, hz0, hz1, hz2⟩ := info_parts infoU8
    have HPC := Lib.hid (ext1 (s := s) j hlt)
    have HZ1 : Hid (((acc.length : Int) == 0) = true → j = i) := Lib.hid (fun h => by
      have h1 : acc = [] := by simpa using h
      rcases HE0.out h1 with h2 | h2
      · exact h2
      · omega)
    have HZ0 : Hid (((acc.length : Int) == 0) = false → a = i) := Lib.hid (fun h => HA0.out (by simpa using h))
    obtain ⟨z, hzz⟩ : ∃ z : Bool, ((acc.length : Int) == 0) = z := ⟨_, rfl⟩
    rw [hzz] at HZ1 HZ0
    by_cases h39 : (s[j]'hlt).toNat = 39
    · have eC : (((s[j]'hlt).toNat : Int) == 39) = true := by simp; omega
      by_cases hnx : j + 1 < s.size
      · have hnx' : (j : Int) + 1 < s.size := by omega
        have eN : decide ((j : Int) + 1 < (s.size : Int)) = true := by simpa using hnx'
        by_cases h392 : (s[j + 1]'hnx).toNat = 39
        · clear hstop HTS
          have e2 : (((s[j + 1]'hnx).toNat : Int) == 39) = true := by simp; omega
          have HG : Hid (textE s m sort (!nb) i = ((acc ++ (s.extract j (j + 1)).data.toList) ++ (textE s m sort (!nb) (j + 2)).1, (textE s m sort (!nb) (j + 2)).2.1, al2 ++ (textE s m sort (!nb) (j + 2)).2.2)) := Lib.hid (by
            rw [HW.out, HTE.out, if_pos (HB8.out.trans h39), aposE, if_pos ((b8_at s (j + 1) hnx).trans h392), HPC.out, show s[j]'hlt = 39 from UInt8.toNat_inj.1 h39]; simp)
          have HP : Hid ((s.extract j (j + 1)).data.toList = [] → j + 2 = s.size) := Lib.hid (fun h => by rw [HPC.out] at h; cases h)
          have hpcs : (s.extract j (j + 1)).size ≤ 90000 := by simp only [ByteArray.size_extract]; omega
          have HPL : Hid ((s.extract j (j + 1)).data.toList.length + j ≤ j + 2 ∧ j < j + 2 ∧ j + 2 ≤ s.size) := Lib.hid (by rw [HPC.out]; simp only [List.length_singleton]; omega)
          have HS8 : SQ true A w w.heap.size s m ((j + 2 : Nat) : Int) ts fs al3 gl cl go co ga2 ca2 acc gb cb (W3.setCell ⟨w.heap.size, 2, none⟩ (.int .i64 ((j : Int) + 2))) := (HS3.set2 hA (Nat.le_refl _) ((j : Int) + 2)).cast (by omega)
          go_wp2_with (at_builtin; go_must (refine Lib.wpList_append_own_string _ rfl _ _ 52 9 rfl w.heap.size 5 i0 Tryz.underlying52 Tryz.underlying9 hii hz0 hz1 hz2 _ acc.length _ rfl HS8.row (s.extract j (j + 1)) rfl (by unfold maxLen; omega) (by omega) (by have := HS8.sb.kr.size; omega) ?_); intro v' w1 hown' hgrow _; obtain ⟨gb5, cb5, rfl, HS9⟩ := HS8.pushS hA hgrow hown'; generalize hq9 : acc ++ (s.extract j (j + 1)).data.toList = acc9 at HS9 ⊢; have HA9 := Lib.hid hq9; clear hq9 hown' hgrow)
          all_goals
            go_roundw
            case rel =>
              first
                | exact ⟨j + 2, j, acc9, al2, gb5, ga2, gl, go, cb5, ca2, cl, co, rfl, rfl, by have := HPL.out; omega, by have := HPL.out; omega, by have h8 := HPL.out; have h9 := congrArg List.length HA9.out; rw [List.length_append] at h9; (try simp only [List.toList_toArray] at h8 h9); omega, by have := HPL.out; have := HL2.out; (try rw [List.length_append, List.length_singleton]); omega, Lib.hid (fun h => .inr (HP.out (List.append_eq_nil_iff.1 (HA9.out.trans h)).2)), Lib.hid (fun _ => HZ1.out (by first | rfl | assumption)), Lib.hid (by rw [← HA9.out]; exact HG.out), by rw [HAL.out]; exact HS9⟩
                | exact ⟨j + 2, a, acc9, al2, gb5, ga2, gl, go, cb5, ca2, cl, co, rfl, rfl, by have := HPL.out; omega, by have := HPL.out; omega, by have h8 := HPL.out; have h9 := congrArg List.length HA9.out; rw [List.length_append] at h9; (try simp only [List.toList_toArray] at h8 h9); omega, by have := HPL.out; have := HL2.out; (try rw [List.length_append, List.length_singleton]); omega, Lib.hid (fun h => .inr (HP.out (List.append_eq_nil_iff.1 (HA9.out.trans h)).2)), Lib.hid (fun _ => HZ0.out (by first | rfl | assumption | exact Bool.eq_false_iff.2 (by assumption))), Lib.hid (by rw [← HA9.out]; exact HG.out), by rw [HAL.out]; exact HS9⟩
            case measure => have := HPL.out; rw [HS1.sb.pos, HS9.sb.pos]; omega
        · have e2 : (((s[j + 1]'hnx).toNat : Int) == 39) = false := by simp; omega
          have HB9 := Lib.hid (b8_at s (j + 1) hnx)
          have HSC := Lib.hid (fun (W : World) (h : RO A ts fs al3 gl cl go co ga2 ca2 W) => by have h2 := rsortG_any (s := s) (m := m) (nl := ts.length) (na := al3.length) (w := W) (j : Int) 0 0 h (by omega); rw [HSO.out] at h2; exact h2)
          by_cases hm2 : m = 2
          · have em : (m == 2) = true := by simpa using hm2
            have hap : (m == 2 || decide (j + 1 < s.size) && synB (P.b8 s (j + 1)) sort) = true := by rw [em]; rfl
            clear hstop HTS HSC hm2
            have hn39 : ¬ P.b8 s (j + 1) = 39 := fun e => h392 ((b8_at s (j + 1) hnx).symm.trans e)
            have HQN := Lib.hid (fun h => quote_nil (s := s) (j := j) hn39 h hlt)
            have hql := quoteE_le s (j + 1) (by omega)
            have hqg := quoteE_ge s (j + 1)
            have HG : Hid (textE s m sort (!nb) i = ((acc ++ (⟨(quoteE s (j + 1)).1.toArray⟩ : ByteArray).data.toList) ++ (textE s m sort (!nb) (quoteE s (j + 1)).2).1, (textE s m sort (!nb) (quoteE s (j + 1)).2).2.1, al2 ++ (textE s m sort (!nb) (quoteE s (j + 1)).2).2.2)) := Lib.hid (by
              rw [HW.out, HTE.out, if_pos (HB8.out.trans h39), aposE, if_neg hn39, if_pos hap]; simp)
            have HP : Hid ((⟨(quoteE s (j + 1)).1.toArray⟩ : ByteArray).data.toList = [] → (quoteE s (j + 1)).2 = s.size) := Lib.hid (fun h => HQN.out (by simpa using h))
            have hpcs : (⟨(quoteE s (j + 1)).1.toArray⟩ : ByteArray).size ≤ 90000 := by
              have : (⟨(quoteE s (j + 1)).1.toArray⟩ : ByteArray).size = (quoteE s (j + 1)).1.length := rfl
              omega
            have HPL : Hid ((⟨(quoteE s (j + 1)).1.toArray⟩ : ByteArray).data.toList.length + j ≤ (quoteE s (j + 1)).2 ∧ j < (quoteE s (j + 1)).2 ∧ (quoteE s (j + 1)).2 ≤ s.size) := Lib.hid (by simp only; omega)
            clear hql hqg
            clear hap
            go_wp2_with fail
            go_quiet (fail)
            have HS4 := HS3.drewN nq
            generalize W3.drewN nq = W4 at *
            clear d0 d1 d2 d3 d4 d5 d6 d7 df; obtain ⟨d0, d1, d2, d3, d4, d5, d6, d7⟩ := HS4.sb.bx.cells; have df := HS4.sb.bx.free
            go_wp2_with fail
            refine (rquote_any j hG (by omega) hlt HS4.sb.ro).mono ?_
            rintro e' W14 ⟨v, rfl, gl14, cl14, go14, co14, ga14, ca14, rfl, hro14, hk14⟩
            go_wp2_with (first
              | (with_reducible refine gate_lx (p := 1) rfl ?_; refine wp_fill (HS4.sb.bx.kr hk14) rfl rfl rfl rfl rfl ?_; intro W15 f15 hx15; have HS8 := HS4.next hA (Nat.le_refl _) hro14 hk14 f15 hx15)
              | (at_builtin; go_must (refine Lib.wpList_append_own_string _ rfl _ _ 52 9 rfl w.heap.size 5 i0 Tryz.underlying52 Tryz.underlying9 hii hz0 hz1 hz2 _ acc.length _ rfl HS8.row ((⟨(quoteE s (j + 1)).1.toArray⟩ : ByteArray)) rfl (by unfold maxLen; omega) (by omega) (by have := HS8.sb.kr.size; omega) ?_); intro v' w1 hown' hgrow _; obtain ⟨gb5, cb5, rfl, HS9⟩ := HS8.pushS hA hgrow hown'; generalize hq9 : acc ++ ((⟨(quoteE s (j + 1)).1.toArray⟩ : ByteArray)).data.toList = acc9 at HS9 ⊢; have HA9 := Lib.hid hq9; clear hq9 hown' hgrow))

            all_goals
              go_roundw
              case rel =>
                first
                  | exact ⟨(quoteE s (j + 1)).2, j, acc9, al2, gb5, ga14, gl14, go14, cb5, ca14, cl14, co14, rfl, rfl, by have := HPL.out; omega, by have := HPL.out; omega, by have h8 := HPL.out; have h9 := congrArg List.length HA9.out; rw [List.length_append] at h9; (try simp only [List.toList_toArray] at h8 h9); omega, by have := HPL.out; have := HL2.out; (try rw [List.length_append, List.length_singleton]); omega, Lib.hid (fun h => .inr (HP.out (List.append_eq_nil_iff.1 (HA9.out.trans h)).2)), Lib.hid (fun _ => HZ1.out (by first | rfl | assumption)), Lib.hid (by rw [← HA9.out]; exact HG.out), by rw [HAL.out]; exact HS9⟩
                  | exact ⟨(quoteE s (j + 1)).2, a, acc9, al2, gb5, ga14, gl14, go14, cb5, ca14, cl14, co14, rfl, rfl, by have := HPL.out; omega, by have := HPL.out; omega, by have h8 := HPL.out; have h9 := congrArg List.length HA9.out; rw [List.length_append] at h9; (try simp only [List.toList_toArray] at h8 h9); omega, by have := HPL.out; have := HL2.out; (try rw [List.length_append, List.length_singleton]); omega, Lib.hid (fun h => .inr (HP.out (List.append_eq_nil_iff.1 (HA9.out.trans h)).2)), Lib.hid (fun _ => HZ0.out (by first | rfl | assumption | exact Bool.eq_false_iff.2 (by assumption))), Lib.hid (by rw [← HA9.out]; exact HG.out), by rw [HAL.out]; exact HS9⟩
              case measure => have := HPL.out; rw [HS1.sb.pos, HS9.sb.pos]; omega
          · have em : (m == 2) = false := by simpa using hm2
            clear hm2
            rcases hsp : synB (P.b8 s (j + 1)) sort with _ | _
            · have hap : ¬ (m == 2 || decide (j + 1 < s.size) && synB (P.b8 s (j + 1)) sort) = true := by rw [em, hsp]; simp
              rw [HB9.out] at hsp
              have HSP := Lib.hid (fun (W : World) (hG : GlH W) => by have h2 := Special_any (w := W) ((s[j + 1]'hnx).toNat) sort hG; rw [hsp] at h2; exact h2)
              clear hstop HTS hsp
              have hn39 : ¬ P.b8 s (j + 1) = 39 := fun e => h392 ((b8_at s (j + 1) hnx).symm.trans e)
              have HG : Hid (textE s m sort (!nb) i = ((acc ++ (s.extract j (j + 1)).data.toList) ++ (textE s m sort (!nb) (j + 1)).1, (textE s m sort (!nb) (j + 1)).2.1, (al2 ++ [j]) ++ (textE s m sort (!nb) (j + 1)).2.2)) := Lib.hid (by
                rw [HW.out, HTE.out, if_pos (HB8.out.trans h39), aposE, if_neg hn39, if_neg hap, HPC.out, show s[j]'hlt = 39 from UInt8.toNat_inj.1 h39]; simp)
              have HP : Hid ((s.extract j (j + 1)).data.toList = [] → j + 1 = s.size) := Lib.hid (fun h => by rw [HPC.out] at h; cases h)
              have e123 : (((s[j]'hlt).toNat : Int) == 123) = false := by simp; omega
              have e125 : (((s[j]'hlt).toNat : Int) == 125) = false := by simp; omega
              have e125' : (((s[j]'hlt).toNat : Int) != 125) = true := by simp; omega
              have hs39 : synB (s[j]'hlt).toNat sort = false := by rw [h39]; simp [synB]
              have hpcs : (s.extract j (j + 1)).size ≤ 90000 := by simp only [ByteArray.size_extract]; omega
              have HPL : Hid ((s.extract j (j + 1)).data.toList.length + j ≤ j + 1 ∧ j < j + 1 ∧ j + 1 ≤ s.size) := Lib.hid (by rw [HPC.out]; simp only [List.length_singleton]; omega)
              clear hap h39
              go_wp2_with fail
              go_region_held3 (fun w' => w'.cell? ⟨w.heap.size, 0, none⟩ = some (.string s) ∧ w'.cell? ⟨w.heap.size, 1, none⟩ = some (.int .i64 m) ∧ w'.cell? ⟨w.heap.size, 2, none⟩ = some (.int .i64 (j : Int)) ∧ w'.cell? ⟨w.heap.size, 3, none⟩ = some (.slice gl ts.length cl) ∧ w'.cell? ⟨w.heap.size, 4, none⟩ = some (.slice go fs.length co) ∧ w'.cell? ⟨w.heap.size, 5, none⟩ = some (.int .i64 0) ∧ w'.cell? ⟨w.heap.size, 6, none⟩ = some (.int .i64 0) ∧ w'.cell? ⟨w.heap.size, 7, none⟩ = some (.slice ga2 al3.length ca2) ∧ SQ true A w w.heap.size s m (j : Int) ts fs al3 gl cl go co ga2 ca2 acc gb cb w') (first | exact HS3.drew.s9 | exact SQ.s9 (by assumption)) (first
                | (go_at_call 49; refine (HSC.out _ HS3.drew.sb.ro).mono ?_; rintro e' W5 ⟨rfl, hb5⟩; have HS5 := HS3.drew.later hb5)
                | (go_at_call 27; refine (HSP.out _ (HS5.sb.ro.glh hG)).mono ?_; rintro e' W6 ⟨rfl, hb6⟩; have HS6 := HS5.later hb6))
              all_goals
                clear d0 d1 d2 d3 d4 d5 d6 d7 df; obtain ⟨d0, d1, d2, d3, d4, d5, d6, d7⟩ := HS6.sb.bx.cells; have df := HS6.sb.bx.free
                try clear HSP
                have HSP := Lib.hid (fun (W : World) (hG : GlH W) => by have h2 := Special_any (w := W) ((s[j]'hlt).toNat) sort hG; rw [hs39] at h2; exact h2)
                clear hs39
                obtain ⟨i1, hii1, hz01, hz11, hz21⟩ := info_parts infoInt
                go_wp2_with (first
                  | (go_at_call 49; refine (HSC.out _ HS6.sb.ro).mono ?_; rintro e' W15 ⟨rfl, hb15⟩; have HS15 := HS6.later hb15; clear d0 d1 d2 d3 d4 d5 d6 d7 df; obtain ⟨d0, d1, d2, d3, d4, d5, d6, d7⟩ := HS15.sb.bx.cells; have df := HS15.sb.bx.free)
                  | (go_at_call 27; refine (HSP.out _ (HS15.sb.ro.glh hG)).mono ?_; rintro e' W16 ⟨rfl, hb16⟩; have HS16 := HS15.later hb16; clear d0 d1 d2 d3 d4 d5 d6 d7 df; obtain ⟨d0, d1, d2, d3, d4, d5, d6, d7⟩ := HS16.sb.bx.cells; have df := HS16.sb.bx.free)
                  | (at_builtin; refine wpList_append_own _ rfl _ _ 40 rfl A.heap.size 3 i1 (.int .i64 0) 1 8 Tryz.underlying40 hii1 hz01 hz11 hz21 rfl (by decide) _ _ _ rfl (HS16.later ((Below.refl _ W16).alloc (Nat.le_refl _) _)).sb.ro.ap ⟨W16.heap.size, 0, none⟩ 1 1 [.int .i64 (j : Int)] rfl rfl ?c1 ?c2 ?c3 ?c4 ?c5 ?_))
                case c1 =>
                  intro k u hk
                  match k, hk with
                  | 0, hk => simp at hk; subst hk; simp [Addr.add]
                case c2 => intro u hu; simp at hu; subst hu; rfl
                case c3 => unfold maxLen; omega
                case c4 => omega
                case c5 => have := HS16.sb.ro.bel.size; simp; omega
                intro v' w17 hown7 hgrow7 _
                obtain ⟨ga7, ca7, rfl, hbx7, HS17⟩ := SQ.pushAl (HS16.later ((Below.refl _ W16).alloc (Nat.le_refl _) _)) hA (Nat.le_refl _) hgrow7 hown7
                rw [List.length_append, List.length_singleton] at *
                clear d0 d1 d2 d3 d4 d5 d6 d7 df
                obtain ⟨d0, d1, d2, d3, d4, d5, d6, d7⟩ := hbx7.cells; have df := hbx7.free
                have HS8 : SQ true A w w.heap.size s m ((j + 1 : Nat) : Int) ts fs (al3 ++ [j]) gl cl go co ga7 ca7 acc gb cb ((w17.setCell ⟨w.heap.size, 7, none⟩ (.slice ga7 (al3.length + 1) ca7)).setCell ⟨w.heap.size, 2, none⟩ (.int .i64 ((j : Int) + 1))) := (HS17.set2 hA (Nat.le_refl _) ((j : Int) + 1)).cast (by omega)
                go_wp2_with (at_builtin; go_must (refine Lib.wpList_append_own_string _ rfl _ _ 52 9 rfl w.heap.size 5 i0 Tryz.underlying52 Tryz.underlying9 hii hz0 hz1 hz2 _ acc.length _ rfl HS8.row (s.extract j (j + 1)) rfl (by unfold maxLen; omega) (by omega) (by have := HS8.sb.kr.size; omega) ?_); intro v' w1 hown' hgrow _; obtain ⟨gb5, cb5, rfl, HS9⟩ := HS8.pushS hA hgrow hown'; generalize hq9 : acc ++ (s.extract j (j + 1)).data.toList = acc9 at HS9 ⊢; have HA9 := Lib.hid hq9; clear hq9 hown' hgrow)
                all_goals
                  go_roundw
                  case rel =>
                    first
                      | exact ⟨j + 1, j, acc9, al2 ++ [j], gb5, ga7, gl, go, cb5, ca7, cl, co, rfl, rfl, by have := HPL.out; omega, by have := HPL.out; omega, by have h8 := HPL.out; have h9 := congrArg List.length HA9.out; rw [List.length_append] at h9; (try simp only [List.toList_toArray] at h8 h9); omega, by have := HPL.out; have := HL2.out; (try rw [List.length_append, List.length_singleton]); omega, Lib.hid (fun h => .inr (HP.out (List.append_eq_nil_iff.1 (HA9.out.trans h)).2)), Lib.hid (fun _ => HZ1.out (by first | rfl | assumption)), Lib.hid (by rw [← HA9.out]; exact HG.out), by rw [← List.append_assoc, HAL.out]; exact HS9⟩
                      | exact ⟨j + 1, a, acc9, al2 ++ [j], gb5, ga7, gl, go, cb5, ca7, cl, co, rfl, rfl, by have := HPL.out; omega, by have := HPL.out; omega, by have h8 := HPL.out; have h9 := congrArg List.length HA9.out; rw [List.length_append] at h9; (try simp only [List.toList_toArray] at h8 h9); omega, by have := HPL.out; have := HL2.out; (try rw [List.length_append, List.length_singleton]); omega, Lib.hid (fun h => .inr (HP.out (List.append_eq_nil_iff.1 (HA9.out.trans h)).2)), Lib.hid (fun _ => HZ0.out (by first | rfl | assumption | exact Bool.eq_false_iff.2 (by assumption))), Lib.hid (by rw [← HA9.out]; exact HG.out), by rw [← List.append_assoc, HAL.out]; exact HS9⟩
                  case measure => have := HPL.out; rw [HS1.sb.pos, HS9.sb.pos]; omega
            · have hap : (m == 2 || decide (j + 1 < s.size) && synB (P.b8 s (j + 1)) sort) = true := by rw [em, hsp]; simpa using hnx
              rw [HB9.out] at hsp
              have HSP := Lib.hid (fun (W : World) (hG : GlH W) => by have h2 := Special_any (w := W) ((s[j + 1]'hnx).toNat) sort hG; rw [hsp] at h2; exact h2)
              clear hstop HTS hsp
              have hn39 : ¬ P.b8 s (j + 1) = 39 := fun e => h392 ((b8_at s (j + 1) hnx).symm.trans e)
              have HQN := Lib.hid (fun h => quote_nil (s := s) (j := j) hn39 h hlt)
              have hql := quoteE_le s (j + 1) (by omega)
              have hqg := quoteE_ge s (j + 1)
              have HG : Hid (textE s m sort (!nb) i = ((acc ++ (⟨(quoteE s (j + 1)).1.toArray⟩ : ByteArray).data.toList) ++ (textE s m sort (!nb) (quoteE s (j + 1)).2).1, (textE s m sort (!nb) (quoteE s (j + 1)).2).2.1, al2 ++ (textE s m sort (!nb) (quoteE s (j + 1)).2).2.2)) := Lib.hid (by
                rw [HW.out, HTE.out, if_pos (HB8.out.trans h39), aposE, if_neg hn39, if_pos hap]; simp)
              have HP : Hid ((⟨(quoteE s (j + 1)).1.toArray⟩ : ByteArray).data.toList = [] → (quoteE s (j + 1)).2 = s.size) := Lib.hid (fun h => HQN.out (by simpa using h))
              have hpcs : (⟨(quoteE s (j + 1)).1.toArray⟩ : ByteArray).size ≤ 90000 := by
                have : (⟨(quoteE s (j + 1)).1.toArray⟩ : ByteArray).size = (quoteE s (j + 1)).1.length := rfl
                omega
              have HPL : Hid ((⟨(quoteE s (j + 1)).1.toArray⟩ : ByteArray).data.toList.length + j ≤ (quoteE s (j + 1)).2 ∧ j < (quoteE s (j + 1)).2 ∧ (quoteE s (j + 1)).2 ≤ s.size) := Lib.hid (by simp only; omega)
              clear hql hqg
              clear hap
              go_wp2_with fail
              go_region_held3 (fun w' => w'.cell? ⟨w.heap.size, 0, none⟩ = some (.string s) ∧ w'.cell? ⟨w.heap.size, 1, none⟩ = some (.int .i64 m) ∧ w'.cell? ⟨w.heap.size, 2, none⟩ = some (.int .i64 (j : Int)) ∧ w'.cell? ⟨w.heap.size, 3, none⟩ = some (.slice gl ts.length cl) ∧ w'.cell? ⟨w.heap.size, 4, none⟩ = some (.slice go fs.length co) ∧ w'.cell? ⟨w.heap.size, 5, none⟩ = some (.int .i64 0) ∧ w'.cell? ⟨w.heap.size, 6, none⟩ = some (.int .i64 0) ∧ w'.cell? ⟨w.heap.size, 7, none⟩ = some (.slice ga2 al3.length ca2) ∧ SQ true A w w.heap.size s m (j : Int) ts fs al3 gl cl go co ga2 ca2 acc gb cb w') (first | exact HS3.drew.s9 | exact SQ.s9 (by assumption)) (first
                | (go_at_call 49; refine (HSC.out _ HS3.drew.sb.ro).mono ?_; rintro e' W5 ⟨rfl, hb5⟩; have HS5 := HS3.drew.later hb5)
                | (go_at_call 27; refine (HSP.out _ (HS5.sb.ro.glh hG)).mono ?_; rintro e' W6 ⟨rfl, hb6⟩; have HS6 := HS5.later hb6))
              all_goals
                clear d0 d1 d2 d3 d4 d5 d6 d7 df; obtain ⟨d0, d1, d2, d3, d4, d5, d6, d7⟩ := HS6.sb.bx.cells; have df := HS6.sb.bx.free
                go_wp2_with fail
                refine (rquote_any j hG (by omega) hlt HS6.sb.ro).mono ?_
                rintro e' W14 ⟨v, rfl, gl14, cl14, go14, co14, ga14, ca14, rfl, hro14, hk14⟩
                go_wp2_with (first
                  | (with_reducible refine gate_lx (p := 1) rfl ?_; refine wp_fill (HS6.sb.bx.kr hk14) rfl rfl rfl rfl rfl ?_; intro W15 f15 hx15; have HS8 := HS6.next hA (Nat.le_refl _) hro14 hk14 f15 hx15)
                  | (at_builtin; go_must (refine Lib.wpList_append_own_string _ rfl _ _ 52 9 rfl w.heap.size 5 i0 Tryz.underlying52 Tryz.underlying9 hii hz0 hz1 hz2 _ acc.length _ rfl HS8.row ((⟨(quoteE s (j + 1)).1.toArray⟩ : ByteArray)) rfl (by unfold maxLen; omega) (by omega) (by have := HS8.sb.kr.size; omega) ?_); intro v' w1 hown' hgrow _; obtain ⟨gb5, cb5, rfl, HS9⟩ := HS8.pushS hA hgrow hown'; generalize hq9 : acc ++ ((⟨(quoteE s (j + 1)).1.toArray⟩ : ByteArray)).data.toList = acc9 at HS9 ⊢; have HA9 := Lib.hid hq9; clear hq9 hown' hgrow))

                all_goals
                  go_roundw
                  case rel =>
                    first
                      | exact ⟨(quoteE s (j + 1)).2, j, acc9, al2, gb5, ga14, gl14, go14, cb5, ca14, cl14, co14, rfl, rfl, by have := HPL.out; omega, by have := HPL.out; omega, by have h8 := HPL.out; have h9 := congrArg List.length HA9.out; rw [List.length_append] at h9; (try simp only [List.toList_toArray] at h8 h9); omega, by have := HPL.out; have := HL2.out; (try rw [List.length_append, List.length_singleton]); omega, Lib.hid (fun h => .inr (HP.out (List.append_eq_nil_iff.1 (HA9.out.trans h)).2)), Lib.hid (fun _ => HZ1.out (by first | rfl | assumption)), Lib.hid (by rw [← HA9.out]; exact HG.out), by rw [HAL.out]; exact HS9⟩
                      | exact ⟨(quoteE s (j + 1)).2, a, acc9, al2, gb5, ga14, gl14, go14, cb5, ca14, cl14, co14, rfl, rfl, by have := HPL.out; omega, by have := HPL.out; omega, by have h8 := HPL.out; have h9 := congrArg List.length HA9.out; rw [List.length_append] at h9; (try simp only [List.toList_toArray] at h8 h9); omega, by have := HPL.out; have := HL2.out; (try rw [List.length_append, List.length_singleton]); omega, Lib.hid (fun h => .inr (HP.out (List.append_eq_nil_iff.1 (HA9.out.trans h)).2)), Lib.hid (fun _ => HZ0.out (by first | rfl | assumption | exact Bool.eq_false_iff.2 (by assumption))), Lib.hid (by rw [← HA9.out]; exact HG.out), by rw [HAL.out]; exact HS9⟩
                  case measure => have := HPL.out; rw [HS1.sb.pos, HS9.sb.pos]; omega
      · have eN : decide ((j : Int) + 1 < (s.size : Int)) = false := by simp; omega
        have HSC := Lib.hid (fun (W : World) (h : RO A ts fs al3 gl cl go co ga2 ca2 W) => by have h2 := rsortG_any (s := s) (m := m) (nl := ts.length) (na := al3.length) (w := W) (j : Int) 0 0 h (by omega); rw [HSO.out] at h2; exact h2)
        by_cases hm2 : m = 2
        · have em : (m == 2) = true := by simpa using hm2
          have hap : (m == 2 || decide (j + 1 < s.size) && synB (P.b8 s (j + 1)) sort) = true := by rw [em]; rfl
          clear hstop HTS HSC hm2
          have hn39 : ¬ P.b8 s (j + 1) = 39 := fun e => by rw [P.b8, dif_neg hnx] at e; cases e
          have HQN := Lib.hid (fun h => quote_nil (s := s) (j := j) hn39 h hlt)
          have hql := quoteE_le s (j + 1) (by omega)
          have hqg := quoteE_ge s (j + 1)
          have HG : Hid (textE s m sort (!nb) i = ((acc ++ (⟨(quoteE s (j + 1)).1.toArray⟩ : ByteArray).data.toList) ++ (textE s m sort (!nb) (quoteE s (j + 1)).2).1, (textE s m sort (!nb) (quoteE s (j + 1)).2).2.1, al2 ++ (textE s m sort (!nb) (quoteE s (j + 1)).2).2.2)) := Lib.hid (by
            rw [HW.out, HTE.out, if_pos (HB8.out.trans h39), aposE, if_neg hn39, if_pos hap]; simp)
          have HP : Hid ((⟨(quoteE s (j + 1)).1.toArray⟩ : ByteArray).data.toList = [] → (quoteE s (j + 1)).2 = s.size) := Lib.hid (fun h => HQN.out (by simpa using h))
          have hpcs : (⟨(quoteE s (j + 1)).1.toArray⟩ : ByteArray).size ≤ 90000 := by
            have : (⟨(quoteE s (j + 1)).1.toArray⟩ : ByteArray).size = (quoteE s (j + 1)).1.length := rfl
            omega
          have HPL : Hid ((⟨(quoteE s (j + 1)).1.toArray⟩ : ByteArray).data.toList.length + j ≤ (quoteE s (j + 1)).2 ∧ j < (quoteE s (j + 1)).2 ∧ (quoteE s (j + 1)).2 ≤ s.size) := Lib.hid (by simp only; omega)
          clear hql hqg
          clear hap
          go_wp2_with fail
          go_quiet (fail)
          have HS4 := HS3.drewN nq
          generalize W3.drewN nq = W4 at *
          clear d0 d1 d2 d3 d4 d5 d6 d7 df; obtain ⟨d0, d1, d2, d3, d4, d5, d6, d7⟩ := HS4.sb.bx.cells; have df := HS4.sb.bx.free
          go_wp2_with fail
          refine (rquote_any j hG (by omega) hlt HS4.sb.ro).mono ?_
          rintro e' W14 ⟨v, rfl, gl14, cl14, go14, co14, ga14, ca14, rfl, hro14, hk14⟩
          go_wp2_with (first
            | (with_reducible refine gate_lx (p := 1) rfl ?_; refine wp_fill (HS4.sb.bx.kr hk14) rfl rfl rfl rfl rfl ?_; intro W15 f15 hx15; have HS8 := HS4.next hA (Nat.le_refl _) hro14 hk14 f15 hx15)
            | (at_builtin; go_must (refine Lib.wpList_append_own_string _ rfl _ _ 52 9 rfl w.heap.size 5 i0 Tryz.underlying52 Tryz.underlying9 hii hz0 hz1 hz2 _ acc.length _ rfl HS8.row ((⟨(quoteE s (j + 1)).1.toArray⟩ : ByteArray)) rfl (by unfold maxLen; omega) (by omega) (by have := HS8.sb.kr.size; omega) ?_); intro v' w1 hown' hgrow _; obtain ⟨gb5, cb5, rfl, HS9⟩ := HS8.pushS hA hgrow hown'; generalize hq9 : acc ++ ((⟨(quoteE s (j + 1)).1.toArray⟩ : ByteArray)).data.toList = acc9 at HS9 ⊢; have HA9 := Lib.hid hq9; clear hq9 hown' hgrow))

          all_goals
            go_roundw
            case rel =>
              first
                | exact ⟨(quoteE s (j + 1)).2, j, acc9, al2, gb5, ga14, gl14, go14, cb5, ca14, cl14, co14, rfl, rfl, by have := HPL.out; omega, by have := HPL.out; omega, by have h8 := HPL.out; have h9 := congrArg List.length HA9.out; rw [List.length_append] at h9; (try simp only [List.toList_toArray] at h8 h9); omega, by have := HPL.out; have := HL2.out; (try rw [List.length_append, List.length_singleton]); omega, Lib.hid (fun h => .inr (HP.out (List.append_eq_nil_iff.1 (HA9.out.trans h)).2)), Lib.hid (fun _ => HZ1.out (by first | rfl | assumption)), Lib.hid (by rw [← HA9.out]; exact HG.out), by rw [HAL.out]; exact HS9⟩
                | exact ⟨(quoteE s (j + 1)).2, a, acc9, al2, gb5, ga14, gl14, go14, cb5, ca14, cl14, co14, rfl, rfl, by have := HPL.out; omega, by have := HPL.out; omega, by have h8 := HPL.out; have h9 := congrArg List.length HA9.out; rw [List.length_append] at h9; (try simp only [List.toList_toArray] at h8 h9); omega, by have := HPL.out; have := HL2.out; (try rw [List.length_append, List.length_singleton]); omega, Lib.hid (fun h => .inr (HP.out (List.append_eq_nil_iff.1 (HA9.out.trans h)).2)), Lib.hid (fun _ => HZ0.out (by first | rfl | assumption | exact Bool.eq_false_iff.2 (by assumption))), Lib.hid (by rw [← HA9.out]; exact HG.out), by rw [HAL.out]; exact HS9⟩
            case measure => have := HPL.out; rw [HS1.sb.pos, HS9.sb.pos]; omega
        · have em : (m == 2) = false := by simpa using hm2
          clear hm2
          have hap : ¬ (m == 2 || decide (j + 1 < s.size) && synB (P.b8 s (j + 1)) sort) = true := by rw [em]; simp; omega
          clear hstop HTS
          have hn39 : ¬ P.b8 s (j + 1) = 39 := fun e => by rw [P.b8, dif_neg hnx] at e; cases e
          have HG : Hid (textE s m sort (!nb) i = ((acc ++ (s.extract j (j + 1)).data.toList) ++ (textE s m sort (!nb) (j + 1)).1, (textE s m sort (!nb) (j + 1)).2.1, (al2 ++ [j]) ++ (textE s m sort (!nb) (j + 1)).2.2)) := Lib.hid (by
            rw [HW.out, HTE.out, if_pos (HB8.out.trans h39), aposE, if_neg hn39, if_neg hap, HPC.out, show s[j]'hlt = 39 from UInt8.toNat_inj.1 h39]; simp)
          have HP : Hid ((s.extract j (j + 1)).data.toList = [] → j + 1 = s.size) := Lib.hid (fun h => by rw [HPC.out] at h; cases h)
          have e123 : (((s[j]'hlt).toNat : Int) == 123) = false := by simp; omega
          have e125 : (((s[j]'hlt).toNat : Int) == 125) = false := by simp; omega
          have e125' : (((s[j]'hlt).toNat : Int) != 125) = true := by simp; omega
          have hs39 : synB (s[j]'hlt).toNat sort = false := by rw [h39]; simp [synB]
          have hpcs : (s.extract j (j + 1)).size ≤ 90000 := by simp only [ByteArray.size_extract]; omega
          have HPL : Hid ((s.extract j (j + 1)).data.toList.length + j ≤ j + 1 ∧ j < j + 1 ∧ j + 1 ≤ s.size) := Lib.hid (by rw [HPC.out]; simp only [List.length_singleton]; omega)
          clear hap h39
          go_wp2_with fail
          go_quiet (fail)
          have HS4 := HS3.drewN nq
          generalize W3.drewN nq = W4 at *
          clear d0 d1 d2 d3 d4 d5 d6 d7 df; obtain ⟨d0, d1, d2, d3, d4, d5, d6, d7⟩ := HS4.sb.bx.cells; have df := HS4.sb.bx.free
          try clear HSP
          have HSP := Lib.hid (fun (W : World) (hG : GlH W) => by have h2 := Special_any (w := W) ((s[j]'hlt).toNat) sort hG; rw [hs39] at h2; exact h2)
          clear hs39
          obtain ⟨i1, hii1, hz01, hz11, hz21⟩ := info_parts infoInt
          go_wp2_with (first
            | (go_at_call 49; refine (HSC.out _ HS4.sb.ro).mono ?_; rintro e' W15 ⟨rfl, hb15⟩; have HS15 := HS4.later hb15; clear d0 d1 d2 d3 d4 d5 d6 d7 df; obtain ⟨d0, d1, d2, d3, d4, d5, d6, d7⟩ := HS15.sb.bx.cells; have df := HS15.sb.bx.free)
            | (go_at_call 27; refine (HSP.out _ (HS15.sb.ro.glh hG)).mono ?_; rintro e' W16 ⟨rfl, hb16⟩; have HS16 := HS15.later hb16; clear d0 d1 d2 d3 d4 d5 d6 d7 df; obtain ⟨d0, d1, d2, d3, d4, d5, d6, d7⟩ := HS16.sb.bx.cells; have df := HS16.sb.bx.free)
            | (at_builtin; refine wpList_append_own _ rfl _ _ 40 rfl A.heap.size 3 i1 (.int .i64 0) 1 8 Tryz.underlying40 hii1 hz01 hz11 hz21 rfl (by decide) _ _ _ rfl (HS16.later ((Below.refl _ W16).alloc (Nat.le_refl _) _)).sb.ro.ap ⟨W16.heap.size, 0, none⟩ 1 1 [.int .i64 (j : Int)] rfl rfl ?c1 ?c2 ?c3 ?c4 ?c5 ?_))
          case c1 =>
            intro k u hk
            match k, hk with
            | 0, hk => simp at hk; subst hk; simp [Addr.add]
          case c2 => intro u hu; simp at hu; subst hu; rfl
          case c3 => unfold maxLen; omega
          case c4 => omega
          case c5 => have := HS16.sb.ro.bel.size; simp; omega
          intro v' w17 hown7 hgrow7 _
          obtain ⟨ga7, ca7, rfl, hbx7, HS17⟩ := SQ.pushAl (HS16.later ((Below.refl _ W16).alloc (Nat.le_refl _) _)) hA (Nat.le_refl _) hgrow7 hown7
          rw [List.length_append, List.length_singleton] at *
          clear d0 d1 d2 d3 d4 d5 d6 d7 df
          obtain ⟨d0, d1, d2, d3, d4, d5, d6, d7⟩ := hbx7.cells; have df := hbx7.free
          have HS8 : SQ true A w w.heap.size s m ((j + 1 : Nat) : Int) ts fs (al3 ++ [j]) gl cl go co ga7 ca7 acc gb cb ((w17.setCell ⟨w.heap.size, 7, none⟩ (.slice ga7 (al3.length + 1) ca7)).setCell ⟨w.heap.size, 2, none⟩ (.int .i64 ((j : Int) + 1))) := (HS17.set2 hA (Nat.le_refl _) ((j : Int) + 1)).cast (by omega)
          go_wp2_with (at_builtin; go_must (refine Lib.wpList_append_own_string _ rfl _ _ 52 9 rfl w.heap.size 5 i0 Tryz.underlying52 Tryz.underlying9 hii hz0 hz1 hz2 _ acc.length _ rfl HS8.row (s.extract j (j + 1)) rfl (by unfold maxLen; omega) (by omega) (by have := HS8.sb.kr.size; omega) ?_); intro v' w1 hown' hgrow _; obtain ⟨gb5, cb5, rfl, HS9⟩ := HS8.pushS hA hgrow hown'; generalize hq9 : acc ++ (s.extract j (j + 1)).data.toList = acc9 at HS9 ⊢; have HA9 := Lib.hid hq9; clear hq9 hown' hgrow)
          all_goals
            go_roundw
            case rel =>
              first
                | exact ⟨j + 1, j, acc9, al2 ++ [j], gb5, ga7, gl, go, cb5, ca7, cl, co, rfl, rfl, by have := HPL.out; omega, by have := HPL.out; omega, by have h8 := HPL.out; have h9 := congrArg List.length HA9.out; rw [List.length_append] at h9; (try simp only [List.toList_toArray] at h8 h9); omega, by have := HPL.out; have := HL2.out; (try rw [List.length_append, List.length_singleton]); omega, Lib.hid (fun h => .inr (HP.out (List.append_eq_nil_iff.1 (HA9.out.trans h)).2)), Lib.hid (fun _ => HZ1.out (by first | rfl | assumption)), Lib.hid (by rw [← HA9.out]; exact HG.out), by rw [← List.append_assoc, HAL.out]; exact HS9⟩
                | exact ⟨j + 1, a, acc9, al2 ++ [j], gb5, ga7, gl, go, cb5, ca7, cl, co, rfl, rfl, by have := HPL.out; omega, by have := HPL.out; omega, by have h8 := HPL.out; have h9 := congrArg List.length HA9.out; rw [List.length_append] at h9; (try simp only [List.toList_toArray] at h8 h9); omega, by have := HPL.out; have := HL2.out; (try rw [List.length_append, List.length_singleton]); omega, Lib.hid (fun h => .inr (HP.out (List.append_eq_nil_iff.1 (HA9.out.trans h)).2)), Lib.hid (fun _ => HZ0.out (by first | rfl | assumption | exact Bool.eq_false_iff.2 (by assumption))), Lib.hid (by rw [← HA9.out]; exact HG.out), by rw [← List.append_assoc, HAL.out]; exact HS9⟩
            case measure => have := HPL.out; rw [HS1.sb.pos, HS9.sb.pos]; omega
    · have eC : (((s[j]'hlt).toNat : Int) == 39) = false := by simp; omega
      have h123 : ¬ (s[j]'hlt).toNat = 123 := fun e => hstop ⟨fun e2 => h39 (HB8.out.symm.trans e2), by rw [HB8.out, e]; cases nb <;> rfl⟩
      have e123 : (((s[j]'hlt).toNat : Int) == 123) = false := by simp; omega
      clear HTS
      by_cases h125 : (s[j]'hlt).toNat = 125
      · have hnt : nb = false := by
          cases nb with
          | false => rfl
          | true => exact absurd ⟨fun e2 => h39 (HB8.out.symm.trans e2), by rw [HB8.out, h125]; rfl⟩ hstop
        subst hnt
        have HG : Hid (textE s m sort (!false) i = ((acc ++ (s.extract j (j + 1)).data.toList) ++ (textE s m sort (!false) (j + 1)).1, (textE s m sort (!false) (j + 1)).2.1, al2 ++ (textE s m sort (!false) (j + 1)).2.2)) := Lib.hid (by
          rw [HW.out, HTE.out, if_neg (fun e => h39 (HB8.out.symm.trans e)), if_neg (fun e => hstop ⟨fun e2 => h39 (HB8.out.symm.trans e2), e⟩), HPC.out]; simp)
        have HP : Hid ((s.extract j (j + 1)).data.toList = [] → j + 1 = s.size) := Lib.hid (fun h => by rw [HPC.out] at h; cases h)
        obtain ⟨nx, hnx⟩ : ∃ nx : Bool, decide ((j : Int) + 1 < (s.size : Int)) = nx := ⟨_, rfl⟩
        have hpcs : (s.extract j (j + 1)).size ≤ 90000 := by simp only [ByteArray.size_extract]; omega
        have HPL : Hid ((s.extract j (j + 1)).data.toList.length + j ≤ j + 1 ∧ j < j + 1 ∧ j + 1 ≤ s.size) := Lib.hid (by rw [HPC.out]; simp only [List.length_singleton]; omega)
        have e125 : (((s[j]'hlt).toNat : Int) == 125) = true := by simp; omega
        have e125' : (((s[j]'hlt).toNat : Int) != 125) = false := by simp; omega
        clear hstop
        go_wp2_with fail
        go_quiet (fail)
        have HS4 := HS3.drewN nq
        generalize W3.drewN nq = W4 at *
        clear d0 d1 d2 d3 d4 d5 d6 d7 df; obtain ⟨d0, d1, d2, d3, d4, d5, d6, d7⟩ := HS4.sb.bx.cells; have df := HS4.sb.bx.free
        have HS8 : SQ true A w w.heap.size s m ((j + 1 : Nat) : Int) ts fs al3 gl cl go co ga2 ca2 acc gb cb (W4.setCell ⟨w.heap.size, 2, none⟩ (.int .i64 ((j : Int) + 1))) := (HS4.set2 hA (Nat.le_refl _) ((j : Int) + 1)).cast (by omega)
        go_wp2_with (at_builtin; go_must (refine Lib.wpList_append_own_string _ rfl _ _ 52 9 rfl w.heap.size 5 i0 Tryz.underlying52 Tryz.underlying9 hii hz0 hz1 hz2 _ acc.length _ rfl HS8.row (s.extract j (j + 1)) rfl (by unfold maxLen; omega) (by omega) (by have := HS8.sb.kr.size; omega) ?_); intro v' w1 hown' hgrow _; obtain ⟨gb5, cb5, rfl, HS9⟩ := HS8.pushS hA hgrow hown'; generalize hq9 : acc ++ (s.extract j (j + 1)).data.toList = acc9 at HS9 ⊢; have HA9 := Lib.hid hq9; clear hq9 hown' hgrow)
        all_goals
          go_roundw
          case rel =>
            first
              | exact ⟨j + 1, j, acc9, al2, gb5, ga2, gl, go, cb5, ca2, cl, co, rfl, rfl, by have := HPL.out; omega, by have := HPL.out; omega, by have h8 := HPL.out; have h9 := congrArg List.length HA9.out; rw [List.length_append] at h9; (try simp only [List.toList_toArray] at h8 h9); omega, by have := HPL.out; have := HL2.out; (try rw [List.length_append, List.length_singleton]); omega, Lib.hid (fun h => .inr (HP.out (List.append_eq_nil_iff.1 (HA9.out.trans h)).2)), Lib.hid (fun _ => HZ1.out (by first | rfl | assumption)), Lib.hid (by rw [← HA9.out]; exact HG.out), by rw [HAL.out]; exact HS9⟩
              | exact ⟨j + 1, a, acc9, al2, gb5, ga2, gl, go, cb5, ca2, cl, co, rfl, rfl, by have := HPL.out; omega, by have := HPL.out; omega, by have h8 := HPL.out; have h9 := congrArg List.length HA9.out; rw [List.length_append] at h9; (try simp only [List.toList_toArray] at h8 h9); omega, by have := HPL.out; have := HL2.out; (try rw [List.length_append, List.length_singleton]); omega, Lib.hid (fun h => .inr (HP.out (List.append_eq_nil_iff.1 (HA9.out.trans h)).2)), Lib.hid (fun _ => HZ0.out (by first | rfl | assumption | exact Bool.eq_false_iff.2 (by assumption))), Lib.hid (by rw [← HA9.out]; exact HG.out), by rw [HAL.out]; exact HS9⟩
          case measure => have := HPL.out; rw [HS1.sb.pos, HS9.sb.pos]; omega
      · have hsy : synB (s[j]'hlt).toNat sort = false := by
          rcases hq : synB (s[j]'hlt).toNat sort with _ | _
          · rfl
          · exact absurd ⟨fun e2 => h39 (HB8.out.symm.trans e2), by rw [HB8.out, hq]; simp [h125]⟩ hstop
        have HSC := Lib.hid (fun (W : World) (h : RO A ts fs al3 gl cl go co ga2 ca2 W) => by have h2 := rsortG_any (s := s) (m := m) (nl := ts.length) (na := al3.length) (w := W) (j : Int) 0 0 h (by omega); rw [HSO.out] at h2; exact h2)
        have HSP := Lib.hid (fun (W : World) (hG : GlH W) => by have h2 := Special_any (w := W) ((s[j]'hlt).toNat) sort hG; rw [hsy] at h2; exact h2)
        clear hsy
        have HG : Hid (textE s m sort (!nb) i = ((acc ++ (s.extract j (j + 1)).data.toList) ++ (textE s m sort (!nb) (j + 1)).1, (textE s m sort (!nb) (j + 1)).2.1, al2 ++ (textE s m sort (!nb) (j + 1)).2.2)) := Lib.hid (by
          rw [HW.out, HTE.out, if_neg (fun e => h39 (HB8.out.symm.trans e)), if_neg (fun e => hstop ⟨fun e2 => h39 (HB8.out.symm.trans e2), e⟩), HPC.out]; simp)
        have HP : Hid ((s.extract j (j + 1)).data.toList = [] → j + 1 = s.size) := Lib.hid (fun h => by rw [HPC.out] at h; cases h)
        obtain ⟨nx, hnx⟩ : ∃ nx : Bool, decide ((j : Int) + 1 < (s.size : Int)) = nx := ⟨_, rfl⟩
        have hpcs : (s.extract j (j + 1)).size ≤ 90000 := by simp only [ByteArray.size_extract]; omega
        have HPL : Hid ((s.extract j (j + 1)).data.toList.length + j ≤ j + 1 ∧ j < j + 1 ∧ j + 1 ≤ s.size) := Lib.hid (by rw [HPC.out]; simp only [List.length_singleton]; omega)
        have e125 : (((s[j]'hlt).toNat : Int) == 125) = false := by simp; omega
        have e125' : (((s[j]'hlt).toNat : Int) != 125) = true := by simp; omega
        clear hstop
        go_wp2_with fail
        go_quiet (fail)
        have HS4 := HS3.drewN nq
        generalize W3.drewN nq = W4 at *
        clear d0 d1 d2 d3 d4 d5 d6 d7 df; obtain ⟨d0, d1, d2, d3, d4, d5, d6, d7⟩ := HS4.sb.bx.cells; have df := HS4.sb.bx.free
        go_wp2_with (first
          | (go_at_call 49; refine (HSC.out _ HS4.sb.ro).mono ?_; rintro e' W15 ⟨rfl, hb15⟩; have HS15 := HS4.later hb15; clear d0 d1 d2 d3 d4 d5 d6 d7 df; obtain ⟨d0, d1, d2, d3, d4, d5, d6, d7⟩ := HS15.sb.bx.cells; have df := HS15.sb.bx.free)
          | (go_at_call 27; refine (HSP.out _ (HS15.sb.ro.glh hG)).mono ?_; rintro e' W16 ⟨rfl, hb16⟩; have HS16 := HS15.later hb16; clear d0 d1 d2 d3 d4 d5 d6 d7 df; obtain ⟨d0, d1, d2, d3, d4, d5, d6, d7⟩ := HS16.sb.bx.cells; have df := HS16.sb.bx.free; have HS8 : SQ true A w w.heap.size s m ((j + 1 : Nat) : Int) ts fs al3 gl cl go co ga2 ca2 acc gb cb (W16.setCell ⟨w.heap.size, 2, none⟩ (.int .i64 ((j : Int) + 1))) := (HS16.set2 hA (Nat.le_refl _) ((j : Int) + 1)).cast (by omega))
          | (at_builtin; go_must (refine Lib.wpList_append_own_string _ rfl _ _ 52 9 rfl w.heap.size 5 i0 Tryz.underlying52 Tryz.underlying9 hii hz0 hz1 hz2 _ acc.length _ rfl HS8.row (s.extract j (j + 1)) rfl (by unfold maxLen; omega) (by omega) (by have := HS8.sb.kr.size; omega) ?_); intro v' w1 hown' hgrow _; obtain ⟨gb5, cb5, rfl, HS9⟩ := HS8.pushS hA hgrow hown'; generalize hq9 : acc ++ (s.extract j (j + 1)).data.toList = acc9 at HS9 ⊢; have HA9 := Lib.hid hq9; clear hq9 hown' hgrow))
        all_goals
          go_roundw
          case rel =>
            first
              | exact ⟨j + 1, j, acc9, al2, gb5, ga2, gl, go, cb5, ca2, cl, co, rfl, rfl, by have := HPL.out; omega, by have := HPL.out; omega, by have h8 := HPL.out; have h9 := congrArg List.length HA9.out; rw [List.length_append] at h9; (try simp only [List.toList_toArray] at h8 h9); omega, by have := HPL.out; have := HL2.out; (try rw [List.length_append, List.length_singleton]); omega, Lib.hid (fun h => .inr (HP.out (List.append_eq_nil_iff.1 (HA9.out.trans h)).2)), Lib.hid (fun _ => HZ1.out (by first | rfl | assumption)), Lib.hid (by rw [← HA9.out]; exact HG.out), by rw [HAL.out]; exact HS9⟩
              | exact ⟨j + 1, a, acc9, al2, gb5, ga2, gl, go, cb5, ca2, cl, co, rfl, rfl, by have := HPL.out; omega, by have := HPL.out; omega, by have h8 := HPL.out; have h9 := congrArg List.length HA9.out; rw [List.length_append] at h9; (try simp only [List.toList_toArray] at h8 h9); omega, by have := HPL.out; have := HL2.out; (try rw [List.length_append, List.length_singleton]); omega, Lib.hid (fun h => .inr (HP.out (List.append_eq_nil_iff.1 (HA9.out.trans h)).2)), Lib.hid (fun _ => HZ0.out (by first | rfl | assumption | exact Bool.eq_false_iff.2 (by assumption))), Lib.hid (by rw [← HA9.out]; exact HG.out), by rw [HAL.out]; exact HS9⟩
          case measure => have := HPL.out; rw [HS1.sb.pos, HS9.sb.pos]; omega
end
end Go.Proofs.YtcnhklcbibpjpaaGreatDoor
