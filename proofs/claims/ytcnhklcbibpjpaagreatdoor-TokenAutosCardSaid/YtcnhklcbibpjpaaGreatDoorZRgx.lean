/- Lemmas behind the laws of the tokens; no conditions. -/
import Derived.Test.YtcnhklcbibpjpaaGreatDoorZRgu
import Derived.Test.YtcnhklcbibpjpaaGreatDoorZAut
import Derived.Deep.DeepMust
set_option linter.unusedVariables false
set_option linter.unusedSimpArgs false

namespace Go.Proofs.YtcnhklcbibpjpaaGreatDoor
open Go.RowKit P Ext PRfa
theorem autoL_step {s : ByteArray} {i : Nat} (hi : i < s.size) : ∀ {al : List Nat}, Rise s i s.size al → (∀ a r, al = a :: r → a ≠ i) → autoL s al i = s[i]'hi :: autoL s al (i + 1) ∧ Rise s (i + 1) s.size al := by
  intro al hr hne
  have h' : i < s.data.toList.length := by simpa using hi
  cases al with
  | nil => exact ⟨by rw [autoL, autoL, List.drop_eq_getElem_cons h']; rfl, hi⟩
  | cons a r =>
    have h1 : i < a := by have := hr.1; have := hne a r rfl; omega
    refine ⟨?_, h1, hr.2⟩
    rw [autoL, autoL, extract_list, extract_list, List.drop_eq_getElem_cons h', show a + 1 - i = (a + 1 - (i + 1)) + 1 from by omega, List.take_succ_cons]
    rfl
theorem autoL_hit {s : ByteArray} {i : Nat} (hi : i < s.size) (r : List Nat) : autoL s (i :: r) i = s[i]'hi :: 39 :: autoL s r (i + 1) := by
  have h' : i < s.data.toList.length := by simpa using hi
  rw [autoL, extract_list, List.drop_eq_getElem_cons h', show i + 1 - i = 1 from by omega]
  rfl
theorem one_cell (W : World) (x : Value) (T : TypeId) : ∀ j u, ([x] : List Value)[j]? = some u → (W.alloc (.cells #[x] T)).cell? ((⟨W.heap.size, 0, none⟩ : Addr).add j) = some u := by
  intro j u hj
  match j, hj with
  | 0, hj =>
    simp at hj
    subst hj
    simp only [Addr.add, Nat.add_zero]
    have := Lib.cell_of_heap (World.alloc_heap_new W (.cells #[x] T)) 0
    first | exact this | (simp; done) | simpa using this
theorem one_one (c : Int) : ∀ u ∈ ([.int .u8 c] : List Value), u.oneCell' = true := by intro u hu; simp at hu; subst hu; rfl
structure AQ (w : World) (X : Nat) (s : ByteArray) (i : Int) (vl vo : Value) (al : List Nat) (ga : Option Addr) (ca : Nat) (acc : List UInt8) (gb : Option Addr) (cb : Nat) (W : World) : Prop where
  bx : Bx X s 1 i vl vo 0 0 (.slice ga al.length ca) W
  ap : W.ownsRow w.heap.size 3 1 (.slice ga al.length ca) al.length (alCells al)
  row : W.ownsRow w.heap.size 5 1 (.slice gb acc.length cb) acc.length (Lib.byteCells acc)
  bel : Below w.heap.size w W
section
variable {w W W' : World} {X : Nat} {s : ByteArray} {i : Int} {vl vo : Value} {al : List Nat} {ga gb : Option Addr} {ca cb : Nat} {acc : List UInt8}
theorem AQ.later (h : AQ w X s i vl vo al ga ca acc gb cb W) (hb : Below W.heap.size W W') : AQ w X s i vl vo al ga ca acc gb cb W' :=
  ⟨h.bx.kr (KR.ofBelow (fb := true) hb), row_later h.ap hb, row_later h.row hb, h.bel.trans (hb.mono h.bel.size)⟩
theorem AQ.alloc (h : AQ w X s i vl vo al ga ca acc gb cb W) (o : Obj) : AQ w X s i vl vo al ga ca acc gb cb (W.alloc o) := h.later ((Below.refl _ W).alloc (Nat.le_refl _) o)
theorem AQ.push (h : AQ w X s i vl vo al ga ca acc gb cb W) {v' : Value} {t : UInt8} (hgrow : W.grownBy W' (Value.slice gb acc.length cb).ownBlock)
    (hown : W'.ownsRow w.heap.size 5 1 v' (acc.length + 1) (Lib.byteCells acc ++ [.int .u8 (t.toNat : Int)])) :
    ∃ gb' cb', v' = .slice gb' (acc ++ [t]).length cb' ∧ AQ w X s i vl vo al ga ca (acc ++ [t]) gb' cb' W' := by
  have hl : (acc ++ [t]).length = acc.length + 1 := by simp
  have he : Lib.byteCells (acc ++ [t]) = Lib.byteCells acc ++ [.int .u8 (t.toNat : Int)] := by simp [Lib.byteCells]
  obtain ⟨g', c', rfl⟩ := ownsRow_succ hown
  refine ⟨_, c', by rw [hl], ⟨grown_other h.row hgrow h.bx (by decide), ownsRow_sameN h.ap fun k c fz hk _ => grown_other h.row hgrow hk (by decide), by rw [hl, he]; exact hown, ?_⟩⟩
  exact h.bel.grown hgrow h.bel.size (fun k e => (row_own h.row k e).1)
end
set_option maxRecDepth 100000 in
set_option maxHeartbeats 16000000 in
theorem rAutoQuote_any (s : ByteArray) (w : World) (hG : GlH w) :
    Calls Tryz.prog 15 #[.string s] w fun e w' => e = .returned (.string (autoO s)) ∧ Below w.heap.size w w' := by
  by_cases hz : 65536 < s.size
  · have HF : Hid (autoO s = s) := Lib.hid (if_pos hz)
    have d : decide ((65536 : Int) < s.size) = true := by simp; omega
    go_enter Tryz.func15, Tryz.ntmps15
    go_wp2
    go_ret
    rw [HF.out]
    exact ⟨rfl, Below.refl _ _⟩
  · have d : decide ((65536 : Int) < s.size) = false := by simp; omega
    have HF : Hid (autoO s = match lexR s 1 with | .ok _ _ al => ⟨(autoL s al 0).toArray⟩ | .er .. => s) := Lib.hid (if_neg hz)
    have HL := Lib.hid (rlexM s 1 w hG hz)
    have HM : Hid (lexM s 1 = match lexR s 1 with | .er k a => .er k a | .ok j ts al => .ok j ts [] al) := Lib.hid rfl
    rcases hr : lexR s 1 with ⟨jj, ts, al⟩ | ⟨k, a⟩
    · have HR : Hid (autoO s = ⟨(autoL s al 0).toArray⟩) := Lib.hid (by rw [HF.out, hr])
      obtain ⟨hri, hjs⟩ := lexR_rise hr
      have HRI := Lib.hid (Rise.append (show Rise s jj s.size [] from hjs) hri)
      rw [hr] at HM
      clear hr HF hri hjs
      go_enter Tryz.func15, Tryz.ntmps15
      go_wp2_with fail
      refine HL.out.mono ?_
      rintro e' w2 ⟨v, rfl, hq⟩
      rw [HM.out] at hq
      obtain ⟨gl, cl, go, co, ga, ca, rfl, hro, hk⟩ := hq
      have hX : w.heap.size ≤ w2.heap.size := hro.bel.size
      go_wp2_with (with_reducible refine gate_lx (p := 3) rfl ?_; refine wp_fill (Bx.new w2) rfl rfl rfl rfl rfl ?_; intro W3 f3 hx3; obtain ⟨d0, d1, d2, d3, d4, d5, d6, d7⟩ := hx3.cells)
      have hro3 := (hro.alloc _).fl (Bx.new w2) f3 hX
      have hrow := World.ownsRow_made (base := w.heap.size) (e := 5) (size := 1) W3 #[] 0 hro3.bel.size (by decide) rfl
      have HA0 : AQ w w2.heap.size s (jj : Int) (.slice gl ts.length cl) (.slice go 0 co) al ga ca [] (some ⟨W3.heap.size, 0, none⟩) 0 (W3.alloc (.cells #[] 5)) :=
        ⟨hx3.alloc _, (hro3.alloc _).ap, hrow, (hro3.alloc _).bel⟩
      have hal := row_le hro3.ap
      clear hrow hro3 hro hk f3 hx3 d0 d1 d2 d3 d4 d5 d6 d7
      generalize W3.alloc (.cells #[] 5) = W4 at *
      go_loopw [4, 5, 6] (fun v4 v5 v6 wr => ∃ (i k : Nat) (acc : List UInt8) (gb : Option Addr) (cb : Nat), v4 = .slice gb acc.length cb ∧ v5 = .int .i64 (k : Int) ∧ v6 = .int .i64 (i : Int) ∧ i ≤ s.size ∧ k ≤ al.length ∧ k ≤ i ∧ acc.length ≤ i + k ∧ Hid (Rise s i s.size (al.drop k)) ∧ Hid (autoL s al 0 = acc ++ autoL s (al.drop k) i) ∧ AQ w w2.heap.size s (jj : Int) (.slice gl ts.length cl) (.slice go 0 co) al ga ca acc gb cb wr) (fun _ _ v6 _ => s.size - valN v6)
      case atStart => exact ⟨0, 0, [], _, 0, rfl, rfl, rfl, Nat.zero_le _, Nat.zero_le _, Nat.le_refl _, by simp, Lib.hid (by simpa using HRI.out), Lib.hid (by simp), HA0⟩
      case round =>
        obtain ⟨i, k, acc, gb, cb, rfl, rfl, rfl, hi, hk, hki, hacc, HRS, HG, HA⟩ := hrel
        clear HA0
        obtain ⟨i0, hii, hz0, hz1, hz2⟩ := info_parts infoU8
        by_cases hlt : i < s.size
        · have dl : decide ((i : Int) < (s.size : Int)) = true := by simp; omega
          have hlt' : (i : Int) < s.size := by omega
          have hi0 : (0 : Int) ≤ (i : Int) := by omega
          have eI : IntKind.i64.wrap ((i : Int) + 1) = (i : Int) + 1 := by rw [IntWalk.i64_in _ (by omega)]
          have eK : IntKind.i64.wrap ((k : Int) + 1) = (k : Int) + 1 := by rw [IntWalk.i64_in _ (by omega)]
          by_cases hkl : k < al.length
          · have dk : decide ((k : Int) < (al.length : Int)) = true := by simp; omega
            have dk2 : decide (k < al.length) = true := decide_eq_true hkl
            have hkl' : (k : Int) < al.length := by omega
            have hk0 : (0 : Int) ≤ (k : Int) := by omega
            have hdrop := List.drop_eq_getElem_cons hkl
            by_cases hit : al[k]'hkl = i
            · have HR2 : Hid (Rise s (i + 1) s.size (al.drop (k + 1))) := Lib.hid (by
                have h := HRS.out
                rw [hdrop, hit] at h
                exact h.2.2)
              have HG2 : Hid (autoL s al 0 = ((acc ++ [s[i]'hlt]) ++ [39]) ++ autoL s (al.drop (k + 1)) (i + 1)) := Lib.hid (by rw [HG.out, hdrop, hit, autoL_hit hlt]; simp)
              have HIT := Lib.hid hit
              clear hit hdrop HRS
              have tok1 : True := trivial
              generalize hcc : s[i]'hlt = cc at *
              go_wp2_with (first
                | (at_builtin; have _t := tok1; go_must (refine wpList_append_own _ rfl _ _ 52 rfl w.heap.size 5 i0 (.int .u8 0) 1 1 Tryz.underlying52 hii hz0 hz1 hz2 rfl (by decide) _ _ _ rfl (HA.alloc _).row ⟨wr.heap.size, 0, none⟩ 1 1 [.int .u8 (cc.toNat : Int)] rfl rfl (one_cell _ _ _) (one_one _) (by unfold maxLen; omega) (by omega) (by have := (HA.alloc (.cells #[.int .u8 (cc.toNat : Int)] 5)).bel.size; exact this) ?_); intro v' w5 hown' hgrow _; obtain ⟨gb5, cb5, rfl, HA5⟩ := (HA.alloc _).push hgrow hown'; generalize hq5 : acc ++ [cc] = acc5 at HA5 ⊢; have hl5 : acc5.length ≤ i + k + 1 := (by rw [← hq5, List.length_append, List.length_singleton]; omega); have HQ5 := Lib.hid hq5; clear hq5 hown' hgrow tok1; obtain ⟨x0, x1, x2, x3, x4, x5, x6, x7⟩ := HA5.bx.cells; obtain ⟨ad, cap, had, hrows⟩ := row_cells HA5.ap; cases had; obtain ⟨g, rfl, hgl, hcell⟩ := hrows k hkl; rw [HIT.out] at hcell; clear hrows)
                | (at_builtin; go_must (refine wpList_append_own _ rfl _ _ 52 rfl w.heap.size 5 i0 (.int .u8 0) 1 1 Tryz.underlying52 hii hz0 hz1 hz2 rfl (by decide) _ _ _ rfl (HA5.alloc _).row ⟨w5.heap.size, 0, none⟩ 1 1 [.int .u8 39] rfl rfl (one_cell _ _ _) (one_one _) (by unfold maxLen; omega) (by omega) (by have := (HA5.alloc (.cells #[.int .u8 39] 5)).bel.size; exact this) ?_); intro v' w6 hown' hgrow _; obtain ⟨gb6, cb6, rfl, HA6⟩ := AQ.push (t := 39) (HA5.alloc _) hgrow hown'; generalize hq6 : acc5 ++ [39] = acc6 at HA6 ⊢; have hl6 : acc6.length ≤ i + k + 2 := (by rw [← hq6, List.length_append, List.length_singleton]; omega); have HQ6 := Lib.hid hq6; clear hq6 hown' hgrow))
              go_roundw
              case rel => exact ⟨i + 1, k + 1, acc6, gb6, cb6, rfl, int_eq (by omega), int_eq (by omega), by omega, by omega, by omega, by omega, HR2, Lib.hid (by rw [← HQ6.out, ← HQ5.out]; exact HG2.out), HA6⟩
              case measure => simp [valN]; omega
            · have hne : ((al[k]'hkl : Nat) : Int) ≠ (i : Int) := by omega
              have hst := autoL_step hlt HRS.out (fun a r e => by rw [hdrop] at e; cases e; exact hit)
              have HR2 := Lib.hid hst.2
              have HG2 : Hid (autoL s al 0 = (acc ++ [s[i]'hlt]) ++ autoL s (al.drop k) (i + 1)) := Lib.hid (by rw [HG.out, hst.1]; simp)
              have hneq : (((al[k]'hkl : Nat) : Int) == (i : Int)) = false := by simpa using hne
              clear hst hdrop HRS hit hne
              generalize hcc : s[i]'hlt = cc at *
              generalize hea : al[k]'hkl = ea at *
              have HEA := Lib.hid hea
              clear hea
              go_wp2_with (at_builtin; go_must (refine wpList_append_own _ rfl _ _ 52 rfl w.heap.size 5 i0 (.int .u8 0) 1 1 Tryz.underlying52 hii hz0 hz1 hz2 rfl (by decide) _ _ _ rfl (HA.alloc _).row ⟨wr.heap.size, 0, none⟩ 1 1 [.int .u8 (cc.toNat : Int)] rfl rfl (one_cell _ _ _) (one_one _) (by unfold maxLen; omega) (by omega) (by have := (HA.alloc (.cells #[.int .u8 (cc.toNat : Int)] 5)).bel.size; exact this) ?_); intro v' w5 hown' hgrow _; obtain ⟨gb5, cb5, rfl, HA5⟩ := (HA.alloc _).push hgrow hown'; generalize hq5 : acc ++ [cc] = acc5 at HA5 ⊢; have hl5 : acc5.length ≤ i + k + 1 := (by rw [← hq5, List.length_append, List.length_singleton]; omega); have HQ5 := Lib.hid hq5; clear hq5 hown' hgrow; obtain ⟨x0, x1, x2, x3, x4, x5, x6, x7⟩ := HA5.bx.cells; obtain ⟨ad, cap, had, hrows⟩ := row_cells HA5.ap; cases had; obtain ⟨g, rfl, hgl, hcell⟩ := hrows k hkl; rw [HEA.out] at hcell; clear hrows)
              go_roundw
              case rel => exact ⟨i + 1, k, acc5, gb5, cb5, rfl, rfl, int_eq (by omega), by omega, by omega, by omega, by omega, HR2, Lib.hid (by rw [← HQ5.out]; exact HG2.out), HA5⟩
              case measure => simp [valN]; omega
          · have dk : decide ((k : Int) < (al.length : Int)) = false := by simp; omega
            have dk2 : decide (k < al.length) = false := decide_eq_false hkl
            have hnil : al.drop k = [] := List.drop_eq_nil_of_le (by omega)
            have hst := autoL_step hlt HRS.out (fun a r e => by rw [hnil] at e; cases e)
            have HR2 := Lib.hid hst.2
            have HG2 : Hid (autoL s al 0 = (acc ++ [s[i]'hlt]) ++ autoL s (al.drop k) (i + 1)) := Lib.hid (by rw [HG.out, hst.1]; simp)
            clear hst hnil HRS
            generalize hcc : s[i]'hlt = cc at *
            go_wp2_with (at_builtin; go_must (refine wpList_append_own _ rfl _ _ 52 rfl w.heap.size 5 i0 (.int .u8 0) 1 1 Tryz.underlying52 hii hz0 hz1 hz2 rfl (by decide) _ _ _ rfl (HA.alloc _).row ⟨wr.heap.size, 0, none⟩ 1 1 [.int .u8 (cc.toNat : Int)] rfl rfl (one_cell _ _ _) (one_one _) (by unfold maxLen; omega) (by omega) (by have := (HA.alloc (.cells #[.int .u8 (cc.toNat : Int)] 5)).bel.size; exact this) ?_); intro v' w5 hown' hgrow _; obtain ⟨gb5, cb5, rfl, HA5⟩ := (HA.alloc _).push hgrow hown'; generalize hq5 : acc ++ [cc] = acc5 at HA5 ⊢; have hl5 : acc5.length ≤ i + k + 1 := (by rw [← hq5, List.length_append, List.length_singleton]; omega); have HQ5 := Lib.hid hq5; clear hq5 hown' hgrow; obtain ⟨x0, x1, x2, x3, x4, x5, x6, x7⟩ := HA5.bx.cells)
            go_roundw
            case rel => exact ⟨i + 1, k, acc5, gb5, cb5, rfl, rfl, int_eq (by omega), by omega, by omega, by omega, by omega, HR2, Lib.hid (by rw [← HQ5.out]; exact HG2.out), HA5⟩
            case measure => simp [valN]; omega
        · have dl : decide ((i : Int) < (s.size : Int)) = false := by simp; omega
          have HE : Hid (autoO s = ⟨acc.toArray⟩) := Lib.hid (by
            have his : i = s.size := by omega
            have hnil : al.drop k = [] := by
              have h := HRS.out
              cases hd : al.drop k with
              | nil => rfl
              | cons a r => rw [hd] at h; have := h.1; have := Rise.le h.2.2; omega
            have : autoL s (al.drop k) i = [] := by rw [hnil, autoL]; exact List.drop_eq_nil_of_le (by simp; omega)
            rw [HR.out, HG.out, this, List.append_nil])
          have hcv := SR.text (w0 := w) ⟨HA.row⟩
          go_wp2_with fail
          go_ret
          rw [HE.out]
          exact ⟨rfl, HA.bel⟩
    · have HR : Hid (autoO s = s) := Lib.hid (by rw [HF.out, hr])
      have hk := lexR_ne hr
      have ek : (k != 0) = true := by simpa using hk
      rw [hr] at HM
      clear hr HF hk
      go_enter Tryz.func15, Tryz.ntmps15
      go_wp2_with fail
      refine HL.out.mono ?_
      rintro e' w2 ⟨v, rfl, hq⟩
      rw [HM.out] at hq
      obtain ⟨i, ts, fs, al, gl, cl, go, co, ga, ca, rfl, hro, hk⟩ := hq
      go_wp2_with (with_reducible refine gate_lx (p := 3) rfl ?_; refine wp_fill (Bx.new w2) rfl rfl rfl rfl rfl ?_; intro W3 f3 hx3; obtain ⟨d0, d1, d2, d3, d4, d5, d6, d7⟩ := hx3.cells)
      go_ret
      rw [HR.out]
      exact ⟨rfl, ((hro.alloc _).fl (Bx.new w2) f3 hro.bel.size).bel⟩
set_option maxRecDepth 100000 in
set_option maxHeartbeats 4000000 in
theorem TokenAutos_any (s : ByteArray) (w : World) (hG : GlH w) :
    Calls Tryz.prog 6 #[.string s] w fun e w' => e = .returned (.bool true) ∧ Below w.heap.size w w' := by
  have HA := Lib.hid (AutoQuote_any s w hG)
  go_enter Tryz.func6, Tryz.ntmps6
  go_wp2_with fail
  refine HA.out.mono ?_
  rintro e w1 ⟨rfl, hb1⟩
  have HB := Lib.hid (rAutoQuote_any s w1 (hG.bel hb1))
  go_wp2_with fail
  refine HB.out.mono ?_
  rintro e w2 ⟨rfl, hb2⟩
  have hb3 := hb1.trans (hb2.mono hb1.size)
  have e1 : ((autoO s).toList == (autoO s).toList) = true := by simp
  go_wp2_with fail
  refine (awake_any w2 (hG.bel hb3)).mono ?_
  rintro e w4 ⟨rfl, hb6⟩
  go_wp2_with fail
  go_ret
  exact ⟨rfl, hb3.trans (hb6.mono hb3.size)⟩
end Go.Proofs.YtcnhklcbibpjpaaGreatDoor
