/- Lemmas behind the laws of the tokens; no conditions. -/
import Derived.Test.YtcnhklcbibpjpaaGreatDoorZRgl
set_option linter.unusedVariables false
set_option linter.unusedSimpArgs false

namespace Go.Proofs.YtcnhklcbibpjpaaGreatDoor
open Go.RowKit P Ext PRfa
section
variable {A : World} {s : ByteArray} {m : Int} {ts : List Tk} {fs : List Fr} {al : List Nat} {gl go ga : Option Addr} {cl co ca nl no na : Nat} {w : World}
set_option maxRecDepth 100000 in
set_option maxHeartbeats 200000000 in
theorem rarg_any (HP : ParseC) (HT : TrimC) (HI : IdentC) (i : Nat) (hG : GlH A) (hz : s.size ≤ 90000) (hi : i < s.size) (hl : ts.length ≤ 79000) (hf : fs.length ≤ 79000) (h : RO A ts fs al gl cl go co ga ca w) :
    Calls Tryz.prog 52 #[lxV s m (i : Int) (.slice gl ts.length cl) (.slice go fs.length co) 0 0 (.slice ga al.length ca)] w fun e w' =>
      ∃ v, e = .returned v ∧ RM A s m w (argM s i ts fs al) v w' := by
  obtain ⟨HS1, hA⟩ := boxes_sb (s := s) (m := m) true i h
  go_enter Tryz.func52, Tryz.ntmps52
  go_wp2_with fail
  refine (?_ : Calls _ _ _ (boxes s m (i : Int) (.slice gl ts.length cl) (.slice go fs.length co) 0 0 (.slice ga al.length ca) w) _)
  generalize (boxes s m (i : Int) (.slice gl ts.length cl) (.slice go fs.length co) 0 0 (.slice ga al.length ca) w) = W1 at *
  have bb := blanks_bd s (i + 1) (by omega)
  have wb := wordEnd_bd s (P.blanks s (i + 1)) bb.2
  have eb := blanks_bd s (P.wordEnd s (P.blanks s (i + 1))) wb.2
  have eS1 : IntKind.i64.wrap (((i : Nat) : Int) + 1) = ((i + 1 : Nat) : Int) := by rw [IntWalk.i64_in _ (by omega)]; omega
  have d0 : True := trivial
  have d1 : True := trivial
  have d2 : True := trivial
  have d3 : True := trivial
  have d4 : True := trivial
  have d5 : True := trivial
  have d6 : True := trivial
  have d7 : True := trivial
  have df : True := trivial
  have hput := rput_any (s := s) (m := m) (i : Nat) 3 (⟨#[]⟩ : ByteArray) (i : Nat) HS1.ro (by omega)
  generalize hts2 : ts ++ [(3, (⟨#[]⟩ : ByteArray), ((i : Nat) : Int))] = ts2 at hput
  have hl_ts2 : ts2.length ≤ 79001 := by rw [← hts2]; simp; omega
  have Hts2 := Lib.hid hts2
  clear hts2
  refine hput.mono ?_
  clear hput
  rintro e' W2 ⟨v, rfl, gl2, cl2, go2, co2, ga2, ca2, rfl, hro2, hk2⟩
  go_wp2_with (with_reducible refine gate_lx (p := 1) rfl ?_; refine wp_fill (HS1.bx.kr hk2) rfl rfl rfl rfl rfl ?_; intro W3 f3 hx3; have HS3 := HS1.next hA (Nat.le_refl _) hro2 hk2.mono f3 hx3; clear d0 d1 d2 d3 d4 d5 d6 d7 df; obtain ⟨d0, d1, d2, d3, d4, d5, d6, d7⟩ := HS3.bx.cells; have df := HS3.bx.free)
  have HS4 : SB true A w w.heap.size s m ((i + 1 : Nat) : Int) ts2 fs al gl2 cl2 go2 co2 ga2 ca2 (W3.setCell ⟨w.heap.size, 2, none⟩ (.int .i64 (((i : Nat) : Int) + 1))) := (HS3.set2 hA (Nat.le_refl _) (((i : Nat) : Int) + 1)).cast (by omega)
  generalize W3.setCell ⟨w.heap.size, 2, none⟩ (.int .i64 (((i : Nat) : Int) + 1)) = W4 at *
  clear d0 d1 d2 d3 d4 d5 d6 d7 df
  have d0 : True := trivial
  have d1 : True := trivial
  have d2 : True := trivial
  have d3 : True := trivial
  have d4 : True := trivial
  have d5 : True := trivial
  have d6 : True := trivial
  have d7 : True := trivial
  have df : True := trivial
  refine (rblanks_any (i + 1) hG (by omega) (by omega) HS4.ro).mono ?_
  rintro e' W5 ⟨v, rfl, gl5, cl5, go5, co5, ga5, ca5, rfl, hro5, hk5⟩
  go_wp2_with (with_reducible refine gate_lx (p := 1) rfl ?_; refine wp_fill (HS4.bx.kr hk5) rfl rfl rfl rfl rfl ?_; intro W6 f6 hx6; have HS6 := HS4.next hA (Nat.le_refl _) hro5 hk5.mono f6 hx6; clear d0 d1 d2 d3 d4 d5 d6 d7 df; obtain ⟨d0, d1, d2, d3, d4, d5, d6, d7⟩ := HS6.bx.cells; have df := HS6.bx.free)
  refine (rword_any (P.blanks s (i + 1)) hG (by omega) bb.2 HS6.ro).mono ?_
  rintro e' W7 ⟨v, rfl, gl7, cl7, go7, co7, ga7, ca7, rfl, hro7, hk7⟩
  go_wp2_with (with_reducible refine gate_lx (p := 1) rfl ?_; refine wp_fill (HS6.bx.kr hk7) rfl rfl rfl rfl rfl ?_; intro W8 f8 hx8; have HS8 := HS6.next hA (Nat.le_refl _) hro7 hk7.mono f8 hx8; clear d0 d1 d2 d3 d4 d5 d6 d7 df; obtain ⟨d0, d1, d2, d3, d4, d5, d6, d7⟩ := HS8.bx.cells; have df := HS8.bx.free)
  have hwz : (wordAt s (P.blanks s (i + 1))).size ≤ 100000 := by rw [wordAt]; simp [ByteArray.size_extract]; omega
  refine (HI (wordAt s (P.blanks s (i + 1))) _ (HS8.ro.glh hG) hwz).mono ?_
  rintro e' W9 ⟨rfl, hb9⟩
  have HS9 := HS8.later hb9
  clear d0 d1 d2 d3 d4 d5 d6 d7 df
  obtain ⟨d0, d1, d2, d3, d4, d5, d6, d7⟩ := HS9.bx.cells; have df := HS9.bx.free
  clear hro2 hk2 hro5 hk5 hro7 hk7 HS1 HS3 HS4 HS6 HS8 hwz
  by_cases hid : identP (wordAt s (P.blanks s (i + 1))) = 0
  · have eI : (identP (wordAt s (P.blanks s (i + 1))) == 0) = true := by simpa using hid
    have HR : Hid (argM s i ts fs al = (failR s (P.blanks s (i + 1)) i).mr ts fs al) := Lib.hid (by rw [argM, if_pos hid])
    go_wp2_with fail
    refine (rlacks_any (P.wordEnd s (P.blanks s (i + 1))) (i) (P.blanks s (i + 1)) HS9.ro).mono ?_
    rintro e' W90 ⟨v, rfl, kk, aa, hfl, gl90, cl90, go90, co90, ga90, ca90, rfl, hro90, hk90⟩
    have HFL := Lib.hid hfl
    clear hfl
    go_wp2_with (with_reducible refine gate_lx (p := 2) rfl ?_; refine wp_fill (HS9.rb.kr hk90) rfl rfl rfl rfl rfl ?_; intro W91 f91 hr91)
    refine bodyPost_ret (bx_ret rfl rfl hr91) rfl ?_
    refine ⟨_, rfl, ?_⟩
    rw [HR.out, HFL.out]
    exact ⟨_, _, _, _, gl90, cl90, go90, co90, ga90, ca90, rfl, hro90.fl (HS9.rb.kr hk90) f91 (by omega), (HS9.kr.trans hk90.mono).fl f91 (by omega)⟩
  have eI : (identP (wordAt s (P.blanks s (i + 1))) == 0) = false := by simpa using hid
  go_wp2_with fail
  have hput := rput_any (s := s) (m := m) (P.wordEnd s (P.blanks s (i + 1)) : Nat) 5 (wordAt s (P.blanks s (i + 1))) (P.blanks s (i + 1) : Nat) HS9.ro (by omega)
  generalize hts3 : ts2 ++ [(5, (wordAt s (P.blanks s (i + 1))), ((P.blanks s (i + 1) : Nat) : Int))] = ts3 at hput
  have hl_ts3 : ts3.length ≤ 79002 := by rw [← hts3]; simp; omega
  have Hts3 := Lib.hid hts3
  clear hts3
  refine hput.mono ?_
  clear hput
  rintro e' W10 ⟨v, rfl, gl10, cl10, go10, co10, ga10, ca10, rfl, hro10, hk10⟩
  have HR1 : Hid (argM s i ts fs al = argM2 s i (P.blanks s (P.wordEnd s (P.blanks s (i + 1)))) ts3 fs al) := Lib.hid (by rw [argM, if_neg hid, Hts2.out, Hts3.out])
  clear hid eI Hts2 Hts3 hl_ts2
  go_wp2_with fail
  refine (rblanks_any (P.wordEnd s (P.blanks s (i + 1))) hG (by omega) wb.2 hro10).mono ?_
  rintro e' W11 ⟨v, rfl, gl11, cl11, go11, co11, ga11, ca11, rfl, hro11, hk11⟩
  have hk12 := hk10.trans hk11
  clear hk10 hk11 hro10
  generalize hE : P.blanks s (P.wordEnd s (P.blanks s (i + 1))) = e1 at *
  clear hE
  have he1 := eb.2
  clear eb wb bb eS1
  have HH := Lib.hid (fun (c : Nat) (W : World) => rhere_any (s := s) (m := m) (gl := gl11) (nl := ts3.length) (cl := cl11) (go := go11) (no := fs.length) (co := co11) (ga := ga11) (na := al.length) (ca := ca11) (w := W) (e1) 0 0 c (by omega))
  cases h125 : at1 s e1 125 with
  | true =>
    have hlt := at1_lt _ _ _ h125
    have HR : Hid (argM s i ts fs al = .ok (e1 + 1) (ts3 ++ [(4, (⟨#[]⟩ : ByteArray), ((e1 : Nat) : Int))]) fs al) := Lib.hid (by rw [HR1.out, argM2, h125, if_pos rfl])
    go_wp2_with (first
          | (with_reducible refine gate_lx (p := 1) rfl ?_; refine wp_fill (HS9.bx.kr hk12) rfl rfl rfl rfl rfl ?_; intro W12 f12 hx12; have HS12 := HS9.next hA (Nat.le_refl _) hro11 hk12.mono f12 hx12; clear d0 d1 d2 d3 d4 d5 d6 d7 df; obtain ⟨d0, d1, d2, d3, d4, d5, d6, d7⟩ := HS12.bx.cells; have df := HS12.bx.free)
          | (go_at_call_of 41 (Value.int IntKind.u8 125); refine (HH.out 125 _).mono ?_; rw [h125]; rintro e' W13 ⟨rfl, hb13⟩; have HS13 := HS12.later hb13; clear d0 d1 d2 d3 d4 d5 d6 d7 df; obtain ⟨d0, d1, d2, d3, d4, d5, d6, d7⟩ := HS13.bx.cells; have df := HS13.bx.free))
    have hcl := rcloses_any (s := s) (m := m) ((e1 : Nat) : Int) HS13.ro (by omega) (by omega) (by omega)
    generalize hts9 : ts3 ++ [(4, (⟨#[]⟩ : ByteArray), ((e1 : Nat) : Int))] = ts9 at hcl
    have Hts9 := Lib.hid hts9
    clear hts9
    refine hcl.mono ?_
    rintro e' W90 ⟨v, rfl, gl90, cl90, go90, co90, ga90, ca90, rfl, hro90, hk90⟩
    go_wp2_with (with_reducible refine gate_lx (p := 2) rfl ?_; refine wp_fill (HS13.rb.kr hk90) rfl rfl rfl rfl rfl ?_; intro W91 f91 hr91)
    refine bodyPost_ret (bx_ret rfl rfl hr91) rfl ?_
    refine ⟨_, rfl, ?_⟩
    rw [HR.out, Hts9.out]
    exact ⟨gl90, cl90, go90, co90, ga90, ca90, rfl, hro90.fl (HS13.rb.kr hk90) f91 (by omega), (HS13.kr.trans hk90.mono).fl f91 (by omega)⟩
  | false =>
    cases h44 : at1 s e1 44 with
    | false =>
      have HR : Hid (argM s i ts fs al = (failR s e1 i).mr ts3 fs al) := Lib.hid (by rw [HR1.out, argM2, h125, h44]; rfl)
      have HRR : Hid ((failR s e1 i).mr ts3 fs al = (failR s e1 i).mr ts3 fs al) := Lib.hid rfl
      go_wp2_with (first
          | (with_reducible refine gate_lx (p := 1) rfl ?_; refine wp_fill (HS9.bx.kr hk12) rfl rfl rfl rfl rfl ?_; intro W12 f12 hx12; have HS12 := HS9.next hA (Nat.le_refl _) hro11 hk12.mono f12 hx12; clear d0 d1 d2 d3 d4 d5 d6 d7 df; obtain ⟨d0, d1, d2, d3, d4, d5, d6, d7⟩ := HS12.bx.cells; have df := HS12.bx.free)
          | (go_at_call_of 41 (Value.int IntKind.u8 125); refine (HH.out 125 _).mono ?_; rw [h125]; rintro e' W13 ⟨rfl, hb13⟩; have HS13 := HS12.later hb13; clear d0 d1 d2 d3 d4 d5 d6 d7 df; obtain ⟨d0, d1, d2, d3, d4, d5, d6, d7⟩ := HS13.bx.cells; have df := HS13.bx.free)
          | (go_at_call_of 41 (Value.int IntKind.u8 44); refine (HH.out 44 _).mono ?_; rw [h44]; rintro e' W14 ⟨rfl, hb14⟩; have HS14 := HS13.later hb14; clear d0 d1 d2 d3 d4 d5 d6 d7 df; obtain ⟨d0, d1, d2, d3, d4, d5, d6, d7⟩ := HS14.bx.cells; have df := HS14.bx.free))
      refine (rlacks_any (e1) (i) (e1) HS14.ro).mono ?_
      rintro e' W90 ⟨v, rfl, kk, aa, hfl, gl90, cl90, go90, co90, ga90, ca90, rfl, hro90, hk90⟩
      have HFL := Lib.hid hfl
      clear hfl
      go_wp2_with (with_reducible refine gate_lx (p := 2) rfl ?_; refine wp_fill (HS14.rb.kr hk90) rfl rfl rfl rfl rfl ?_; intro W91 f91 hr91)
      refine bodyPost_ret (bx_ret rfl rfl hr91) rfl ?_
      refine ⟨_, rfl, ?_⟩
      rw [HR.out, HFL.out]
      exact ⟨_, _, _, _, gl90, cl90, go90, co90, ga90, ca90, rfl, hro90.fl (HS14.rb.kr hk90) f91 (by omega), (HS14.kr.trans hk90.mono).fl f91 (by omega)⟩
    | true =>
      have hlt := at1_lt _ _ _ h44
      have eS2 : IntKind.i64.wrap (((e1 : Nat) : Int) + 1) = ((e1 + 1 : Nat) : Int) := by rw [IntWalk.i64_in _ (by omega)]; omega
      go_wp2_with (first
          | (with_reducible refine gate_lx (p := 1) rfl ?_; refine wp_fill (HS9.bx.kr hk12) rfl rfl rfl rfl rfl ?_; intro W12 f12 hx12; have HS12 := HS9.next hA (Nat.le_refl _) hro11 hk12.mono f12 hx12; clear d0 d1 d2 d3 d4 d5 d6 d7 df; obtain ⟨d0, d1, d2, d3, d4, d5, d6, d7⟩ := HS12.bx.cells; have df := HS12.bx.free)
          | (go_at_call_of 41 (Value.int IntKind.u8 125); refine (HH.out 125 _).mono ?_; rw [h125]; rintro e' W13 ⟨rfl, hb13⟩; have HS13 := HS12.later hb13; clear d0 d1 d2 d3 d4 d5 d6 d7 df; obtain ⟨d0, d1, d2, d3, d4, d5, d6, d7⟩ := HS13.bx.cells; have df := HS13.bx.free)
          | (go_at_call_of 41 (Value.int IntKind.u8 44); refine (HH.out 44 _).mono ?_; rw [h44]; rintro e' W14 ⟨rfl, hb14⟩; have HS14 := HS13.later hb14; clear d0 d1 d2 d3 d4 d5 d6 d7 df; obtain ⟨d0, d1, d2, d3, d4, d5, d6, d7⟩ := HS14.bx.cells; have df := HS14.bx.free))
      have hput := rput_any (s := s) (m := m) (e1 : Nat) 6 (⟨#[]⟩ : ByteArray) (e1 : Nat) HS14.ro (by omega)
      generalize hts4 : ts3 ++ [(6, (⟨#[]⟩ : ByteArray), ((e1 : Nat) : Int))] = ts4 at hput
      have hl_ts4 : ts4.length ≤ 79003 := by rw [← hts4]; simp; omega
      have Hts4 := Lib.hid hts4
      clear hts4
      refine hput.mono ?_
      clear hput
      rintro e' W15 ⟨v, rfl, gl15, cl15, go15, co15, ga15, ca15, rfl, hro15, hk15⟩
      have HR2 : Hid (argM s i ts fs al = argM3 s i (P.blanks s (e1 + 1)) ts4 fs al) := Lib.hid (by rw [HR1.out, argM2, h125, h44, ← Hts4.out]; rfl)
      go_wp2_with (with_reducible refine gate_lx (p := 1) rfl ?_; refine wp_fill (HS14.bx.kr hk15) rfl rfl rfl rfl rfl ?_; intro W16 f16 hx16; have HS16 := HS14.next hA (Nat.le_refl _) hro15 hk15.mono f16 hx16; clear d0 d1 d2 d3 d4 d5 d6 d7 df; obtain ⟨d0, d1, d2, d3, d4, d5, d6, d7⟩ := HS16.bx.cells; have df := HS16.bx.free)
      have HS17 : SB true A w w.heap.size s m ((e1 + 1 : Nat) : Int) ts4 fs al gl15 cl15 go15 co15 ga15 ca15 (W16.setCell ⟨w.heap.size, 2, none⟩ (.int .i64 (((e1 : Nat) : Int) + 1))) := (HS16.set2 hA (Nat.le_refl _) (((e1 : Nat) : Int) + 1)).cast (by omega)
      generalize W16.setCell ⟨w.heap.size, 2, none⟩ (.int .i64 (((e1 : Nat) : Int) + 1)) = W17 at *
      clear d0 d1 d2 d3 d4 d5 d6 d7 df
      have d0 : True := trivial
      have d1 : True := trivial
      have d2 : True := trivial
      have d3 : True := trivial
      have d4 : True := trivial
      have d5 : True := trivial
      have d6 : True := trivial
      have d7 : True := trivial
      have df : True := trivial
      have bb := blanks_bd s (e1 + 1) (by omega)
      refine (rblanks_any (e1 + 1) hG (by omega) (by omega) HS17.ro).mono ?_
      rintro e' W18 ⟨v, rfl, gl18, cl18, go18, co18, ga18, ca18, rfl, hro18, hk18⟩
      clear HS9 HS12 HS13 HS14 HS16 hro15 hk15 hro11 hk12 h125 h44 HR1 Hts4 hl_ts3 HH
      go_wp2_with (with_reducible refine gate_lx (p := 1) rfl ?_; refine wp_fill (HS17.bx.kr hk18) rfl rfl rfl rfl rfl ?_; intro W19 f19 hx19; have HS19 := HS17.next hA (Nat.le_refl _) hro18 hk18.mono f19 hx19; clear d0 d1 d2 d3 d4 d5 d6 d7 df; obtain ⟨d0, d1, d2, d3, d4, d5, d6, d7⟩ := HS19.bx.cells; have df := HS19.bx.free)
      generalize hB : P.blanks s (e1 + 1) = b at *
      clear hB HS17 hro18 hk18
      obtain ⟨hb1, hbs⟩ := bb
      go_loopw [] (fun wr => ∃ j : Nat, b ≤ j ∧ j ≤ s.size ∧ Hid (letEnd s b = letEnd s j) ∧ SB true A w w.heap.size s m (j : Int) ts4 fs al gl18 cl18 go18 co18 ga18 ca18 wr) (fun wr => s.size - posOf w.heap.size wr)
      case atStart => exact ⟨b, Nat.le_refl _, hbs, Lib.hid rfl, HS19⟩
      case round =>
        obtain ⟨j, hij, hjs, HW, HS1⟩ := hrel
        clear HS19
        clear d0 d1 d2 d3 d4 d5 d6 d7 df
        obtain ⟨d0, d1, d2, d3, d4, d5, d6, d7⟩ := HS1.bx.cells; have df := HS1.bx.free
        have HE := Lib.hid (fun (W : World) => rends_any (s := s) (m := m) (gl := gl18) (nl := ts4.length) (cl := cl18) (go := go18) (no := fs.length) (co := co18) (ga := ga18) (na := al.length) (ca := ca18) (w := W) j 0 0)
        by_cases hlt : j < s.size
        rotate_left
        focus
          have eE : decide (s.size ≤ j) = true := by simp; omega
          have HF : Hid (letEnd s b = j) := Lib.hid (by rw [HW.out, letEnd, dif_neg hlt])
          have hbj' : (b : Int) ≤ j := by omega
          have hjs' : (j : Int) ≤ s.size := by omega
          by_cases ht0 : (s.extract b j).toList = []
          · have HR : Hid (argM s i ts fs al = (failR s b i).mr ts4 fs al) := Lib.hid (by
              have hjb : j = b := by have := (tlNil _).1 ht0; simp [ByteArray.size_extract] at this; omega
              rw [HR2.out, argM3, if_pos (HF.out.trans hjb)])
            go_wp2_with (go_at_call 32; refine (HE.out _).mono ?_; rintro e' W3 ⟨rfl, hb3⟩; have HS3 := HS1.later hb3; clear d0 d1 d2 d3 d4 d5 d6 d7 df; obtain ⟨d0, d1, d2, d3, d4, d5, d6, d7⟩ := HS3.bx.cells; have df := HS3.bx.free)
            refine (rlacks_any (j) (i) (b) HS3.ro).mono ?_
            rintro e' W90 ⟨v, rfl, kk, aa, hfl, gl90, cl90, go90, co90, ga90, ca90, rfl, hro90, hk90⟩
            have HFL := Lib.hid hfl
            clear hfl
            go_wp2_with (with_reducible refine gate_lx (p := 2) rfl ?_; refine wp_fill (HS3.rb.kr hk90) rfl rfl rfl rfl rfl ?_; intro W91 f91 hr91)
            refine bodyPost_ret (bx_ret rfl rfl hr91) rfl ?_
            refine ⟨_, rfl, ?_⟩
            rw [HR.out, HFL.out]
            exact ⟨_, _, _, _, gl90, cl90, go90, co90, ga90, ca90, rfl, hro90.fl (HS3.rb.kr hk90) f91 (by omega), (HS3.kr.trans hk90.mono).fl f91 (by omega)⟩
          have hbe : (s.extract b j).toList.isEmpty = false := by simpa using ht0
          go_wp2_with (go_at_call 32; refine (HE.out _).mono ?_; rintro e' W3 ⟨rfl, hb3⟩; have HS3 := HS1.later hb3; clear d0 d1 d2 d3 d4 d5 d6 d7 df; obtain ⟨d0, d1, d2, d3, d4, d5, d6, d7⟩ := HS3.bx.cells; have df := HS3.bx.free)
        rotate_right
        have eE : decide (s.size ≤ j) = false := by simp; omega
        have hlt' : (j : Int) < s.size := by omega
        have HB8 := Lib.hid (b8_at s j hlt)
        have HN : Hid (letEnd s j = if letB (P.b8 s j) then letEnd s (j + 1) else j) := Lib.hid (by rw [letEnd, dif_pos hlt])
        have eS4 : IntKind.i64.wrap ((j : Int) + 1) = ((j + 1 : Nat) : Int) := by rw [IntWalk.i64_in _ (by omega)]; omega
        by_cases q1 : 97 ≤ (s[j]'hlt).toNat
        by_cases q2 : (s[j]'hlt).toNat ≤ 122
        focus
          have e1 : decide ((97 : Int) ≤ (((s[j]'hlt).toNat : Int) : Int)) = true := by simp; omega
          have e2 : decide ((((s[j]'hlt).toNat : Int) : Int) ≤ (122 : Int)) = true := by simp; omega
          have HG : Hid (letEnd s b = letEnd s (j + 1)) := Lib.hid (by rw [HW.out, HN.out, if_pos (by rw [HB8.out]; simp [letB]; omega)])
          clear q1 q2
          go_wp2_with (go_at_call 32; refine (HE.out _).mono ?_; rintro e' W2 ⟨rfl, hb2⟩; have HS2 := HS1.later hb2; clear d0 d1 d2 d3 d4 d5 d6 d7 df; obtain ⟨d0, d1, d2, d3, d4, d5, d6, d7⟩ := HS2.bx.cells; have df := HS2.bx.free)
          have HM : SB true A w w.heap.size s m ((j + 1 : Nat) : Int) ts4 fs al gl18 cl18 go18 co18 ga18 ca18 (W2.setCell ⟨w.heap.size, 2, none⟩ (.int .i64 ((j : Int) + 1))) := (HS2.set2 hA (Nat.le_refl _) ((j : Int) + 1)).cast (by omega)
          go_roundw
          case rel => exact ⟨j + 1, by omega, by omega, HG, HM⟩
          case measure => rw [HS1.pos, HM.pos]; omega
        focus
          have e1 : decide ((97 : Int) ≤ (((s[j]'hlt).toNat : Int) : Int)) = true := by simp; omega
          have e2 : decide ((((s[j]'hlt).toNat : Int) : Int) ≤ (122 : Int)) = false := by simp; omega
          have e3 : decide ((65 : Int) ≤ (((s[j]'hlt).toNat : Int) : Int)) = true := by simp; omega
          have e4 : decide ((((s[j]'hlt).toNat : Int) : Int) ≤ (90 : Int)) = false := by simp; omega
          have HF : Hid (letEnd s b = j) := Lib.hid (by rw [HW.out, HN.out, if_neg (by rw [HB8.out]; simp [letB]; omega)])
          have hbj' : (b : Int) ≤ j := by omega
          have hjs' : (j : Int) ≤ s.size := by omega
          by_cases ht0 : (s.extract b j).toList = []
          · have HR : Hid (argM s i ts fs al = (failR s b i).mr ts4 fs al) := Lib.hid (by
              have hjb : j = b := by have := (tlNil _).1 ht0; simp [ByteArray.size_extract] at this; omega
              rw [HR2.out, argM3, if_pos (HF.out.trans hjb)])
            go_wp2_with (go_at_call 32; refine (HE.out _).mono ?_; rintro e' W3 ⟨rfl, hb3⟩; have HS3 := HS1.later hb3; clear d0 d1 d2 d3 d4 d5 d6 d7 df; obtain ⟨d0, d1, d2, d3, d4, d5, d6, d7⟩ := HS3.bx.cells; have df := HS3.bx.free)
            refine (rlacks_any (j) (i) (b) HS3.ro).mono ?_
            rintro e' W90 ⟨v, rfl, kk, aa, hfl, gl90, cl90, go90, co90, ga90, ca90, rfl, hro90, hk90⟩
            have HFL := Lib.hid hfl
            clear hfl
            go_wp2_with (with_reducible refine gate_lx (p := 2) rfl ?_; refine wp_fill (HS3.rb.kr hk90) rfl rfl rfl rfl rfl ?_; intro W91 f91 hr91)
            refine bodyPost_ret (bx_ret rfl rfl hr91) rfl ?_
            refine ⟨_, rfl, ?_⟩
            rw [HR.out, HFL.out]
            exact ⟨_, _, _, _, gl90, cl90, go90, co90, ga90, ca90, rfl, hro90.fl (HS3.rb.kr hk90) f91 (by omega), (HS3.kr.trans hk90.mono).fl f91 (by omega)⟩
          have hbe : (s.extract b j).toList.isEmpty = false := by simpa using ht0
          go_wp2_with (go_at_call 32; refine (HE.out _).mono ?_; rintro e' W3 ⟨rfl, hb3⟩; have HS3 := HS1.later hb3; clear d0 d1 d2 d3 d4 d5 d6 d7 df; obtain ⟨d0, d1, d2, d3, d4, d5, d6, d7⟩ := HS3.bx.cells; have df := HS3.bx.free)
        rotate_left
        by_cases q3 : 65 ≤ (s[j]'hlt).toNat
        by_cases q4 : (s[j]'hlt).toNat ≤ 90
        focus
          have e1 : decide ((97 : Int) ≤ (((s[j]'hlt).toNat : Int) : Int)) = false := by simp; omega
          have e2 : decide ((65 : Int) ≤ (((s[j]'hlt).toNat : Int) : Int)) = true := by simp; omega
          have e3 : decide ((((s[j]'hlt).toNat : Int) : Int) ≤ (90 : Int)) = true := by simp; omega
          have HG : Hid (letEnd s b = letEnd s (j + 1)) := Lib.hid (by rw [HW.out, HN.out, if_pos (by rw [HB8.out]; simp [letB]; omega)])
          clear q1 q3 q4
          go_wp2_with (go_at_call 32; refine (HE.out _).mono ?_; rintro e' W2 ⟨rfl, hb2⟩; have HS2 := HS1.later hb2; clear d0 d1 d2 d3 d4 d5 d6 d7 df; obtain ⟨d0, d1, d2, d3, d4, d5, d6, d7⟩ := HS2.bx.cells; have df := HS2.bx.free)
          have HM : SB true A w w.heap.size s m ((j + 1 : Nat) : Int) ts4 fs al gl18 cl18 go18 co18 ga18 ca18 (W2.setCell ⟨w.heap.size, 2, none⟩ (.int .i64 ((j : Int) + 1))) := (HS2.set2 hA (Nat.le_refl _) ((j : Int) + 1)).cast (by omega)
          go_roundw
          case rel => exact ⟨j + 1, by omega, by omega, HG, HM⟩
          case measure => rw [HS1.pos, HM.pos]; omega
        focus
          have e1 : decide ((97 : Int) ≤ (((s[j]'hlt).toNat : Int) : Int)) = false := by simp; omega
          have e2 : decide ((65 : Int) ≤ (((s[j]'hlt).toNat : Int) : Int)) = true := by simp; omega
          have e3 : decide ((((s[j]'hlt).toNat : Int) : Int) ≤ (90 : Int)) = false := by simp; omega
          have HF : Hid (letEnd s b = j) := Lib.hid (by rw [HW.out, HN.out, if_neg (by rw [HB8.out]; simp [letB]; omega)])
          have hbj' : (b : Int) ≤ j := by omega
          have hjs' : (j : Int) ≤ s.size := by omega
          by_cases ht0 : (s.extract b j).toList = []
          · have HR : Hid (argM s i ts fs al = (failR s b i).mr ts4 fs al) := Lib.hid (by
              have hjb : j = b := by have := (tlNil _).1 ht0; simp [ByteArray.size_extract] at this; omega
              rw [HR2.out, argM3, if_pos (HF.out.trans hjb)])
            go_wp2_with (go_at_call 32; refine (HE.out _).mono ?_; rintro e' W3 ⟨rfl, hb3⟩; have HS3 := HS1.later hb3; clear d0 d1 d2 d3 d4 d5 d6 d7 df; obtain ⟨d0, d1, d2, d3, d4, d5, d6, d7⟩ := HS3.bx.cells; have df := HS3.bx.free)
            refine (rlacks_any (j) (i) (b) HS3.ro).mono ?_
            rintro e' W90 ⟨v, rfl, kk, aa, hfl, gl90, cl90, go90, co90, ga90, ca90, rfl, hro90, hk90⟩
            have HFL := Lib.hid hfl
            clear hfl
            go_wp2_with (with_reducible refine gate_lx (p := 2) rfl ?_; refine wp_fill (HS3.rb.kr hk90) rfl rfl rfl rfl rfl ?_; intro W91 f91 hr91)
            refine bodyPost_ret (bx_ret rfl rfl hr91) rfl ?_
            refine ⟨_, rfl, ?_⟩
            rw [HR.out, HFL.out]
            exact ⟨_, _, _, _, gl90, cl90, go90, co90, ga90, ca90, rfl, hro90.fl (HS3.rb.kr hk90) f91 (by omega), (HS3.kr.trans hk90.mono).fl f91 (by omega)⟩
          have hbe : (s.extract b j).toList.isEmpty = false := by simpa using ht0
          go_wp2_with (go_at_call 32; refine (HE.out _).mono ?_; rintro e' W3 ⟨rfl, hb3⟩; have HS3 := HS1.later hb3; clear d0 d1 d2 d3 d4 d5 d6 d7 df; obtain ⟨d0, d1, d2, d3, d4, d5, d6, d7⟩ := HS3.bx.cells; have df := HS3.bx.free)
        rotate_left
        focus
          have e1 : decide ((97 : Int) ≤ (((s[j]'hlt).toNat : Int) : Int)) = false := by simp; omega
          have e2 : decide ((65 : Int) ≤ (((s[j]'hlt).toNat : Int) : Int)) = false := by simp; omega
          have HF : Hid (letEnd s b = j) := Lib.hid (by rw [HW.out, HN.out, if_neg (by rw [HB8.out]; simp [letB]; omega)])
          have hbj' : (b : Int) ≤ j := by omega
          have hjs' : (j : Int) ≤ s.size := by omega
          by_cases ht0 : (s.extract b j).toList = []
          · have HR : Hid (argM s i ts fs al = (failR s b i).mr ts4 fs al) := Lib.hid (by
              have hjb : j = b := by have := (tlNil _).1 ht0; simp [ByteArray.size_extract] at this; omega
              rw [HR2.out, argM3, if_pos (HF.out.trans hjb)])
            go_wp2_with (go_at_call 32; refine (HE.out _).mono ?_; rintro e' W3 ⟨rfl, hb3⟩; have HS3 := HS1.later hb3; clear d0 d1 d2 d3 d4 d5 d6 d7 df; obtain ⟨d0, d1, d2, d3, d4, d5, d6, d7⟩ := HS3.bx.cells; have df := HS3.bx.free)
            refine (rlacks_any (j) (i) (b) HS3.ro).mono ?_
            rintro e' W90 ⟨v, rfl, kk, aa, hfl, gl90, cl90, go90, co90, ga90, ca90, rfl, hro90, hk90⟩
            have HFL := Lib.hid hfl
            clear hfl
            go_wp2_with (with_reducible refine gate_lx (p := 2) rfl ?_; refine wp_fill (HS3.rb.kr hk90) rfl rfl rfl rfl rfl ?_; intro W91 f91 hr91)
            refine bodyPost_ret (bx_ret rfl rfl hr91) rfl ?_
            refine ⟨_, rfl, ?_⟩
            rw [HR.out, HFL.out]
            exact ⟨_, _, _, _, gl90, cl90, go90, co90, ga90, ca90, rfl, hro90.fl (HS3.rb.kr hk90) f91 (by omega), (HS3.kr.trans hk90.mono).fl f91 (by omega)⟩
          have hbe : (s.extract b j).toList.isEmpty = false := by simpa using ht0
          go_wp2_with (go_at_call 32; refine (HE.out _).mono ?_; rintro e' W3 ⟨rfl, hb3⟩; have HS3 := HS1.later hb3; clear d0 d1 d2 d3 d4 d5 d6 d7 df; obtain ⟨d0, d1, d2, d3, d4, d5, d6, d7⟩ := HS3.bx.cells; have df := HS3.bx.free)
        all_goals
          rename World => W3
          clear HS1 HW
          clear d0 d1 d2 d3 d4 d5 d6 d7 df
          obtain ⟨d0, d1, d2, d3, d4, d5, d6, d7⟩ := HS3.bx.cells; have df := HS3.bx.free
          have HR3 : Hid (argM s i ts fs al = argM4 s i (s.extract b j) (P.blanks s j) (ts4 ++ [(7, s.extract b j, ((b : Nat) : Int))]) fs al) := Lib.hid (by
            have hjb : j ≠ b := fun e => ht0 ((tlNil _).2 (by simp [ByteArray.size_extract]; omega))
            rw [HR2.out, argM3, HF.out, if_neg hjb])
          have hput := rput_any (s := s) (m := m) (j : Nat) 7 (s.extract b j) (b : Nat) HS3.ro (by omega)
          generalize hts5 : ts4 ++ [(7, (s.extract b j), ((b : Nat) : Int))] = ts5 at hput
          have hl_ts5 : ts5.length ≤ 79004 := by rw [← hts5]; simp; omega
          have Hts5 := Lib.hid hts5
          clear hts5
          refine hput.mono ?_
          clear hput
          rintro e' W40 ⟨v, rfl, gl40, cl40, go40, co40, ga40, ca40, rfl, hro40, hk40⟩
          rw [Hts5.out] at HR3
          have eb2 := blanks_bd s j hjs
          go_wp2_with fail
          refine (rblanks_any j hG (by omega) hjs hro40).mono ?_
          rintro e' W41 ⟨v, rfl, gl41, cl41, go41, co41, ga41, ca41, rfl, hro41, hk41⟩
          have hk42 := hk40.trans hk41
          clear hk40 hk41 hro40 HF HR2 Hts5 hl_ts4 ht0 hbe
          generalize s.extract b j = t at *
          generalize hE2 : P.blanks s j = e2 at *
          clear hE2
          obtain ⟨hj2, he2⟩ := eb2
          by_cases tt : t.toList = [112, 108, 117, 114, 97, 108]
          · have tp : (t.toList == [112, 108, 117, 114, 97, 108]) = true := by rw [tt]; decide
            have tc : (t.toList == [99, 104, 111, 105, 99, 101]) = false := by rw [tt]; decide
            have HR : Hid (argM s i ts fs al = cplxM s true false i e2 ts5 fs al) := Lib.hid (by rw [HR3.out, argM4, if_pos (.inl ((ByteArray.toList_eq (bs := t)) ▸ tt))])
            go_wp2_with (with_reducible refine gate_lx (p := 1) rfl ?_; refine wp_fill (HS3.bx.kr hk42) rfl rfl rfl rfl rfl ?_; intro W42 f42 hx42; have HS42 := HS3.next hA (Nat.le_refl _) hro41 hk42.mono f42 hx42; clear d0 d1 d2 d3 d4 d5 d6 d7 df; obtain ⟨d0, d1, d2, d3, d4, d5, d6, d7⟩ := HS42.bx.cells; have df := HS42.bx.free)
            refine (rcplx_any HP e2 hG hz he2 t true false rfl (i : Nat) tc (by omega) (by omega) HS42.ro).mono ?_
            rintro e' W60 ⟨v, rfl, hq⟩
            have hm := hq.kr HS42.kr
            obtain ⟨s', m', i', gl', go', ga', nl', cl', no', co', na', ca', ee', aa', hv, hkv⟩ := hq.val
            subst hv
            go_wp2_with (with_reducible refine gate_lx (p := 2) rfl ?_; refine wp_fill (HS42.rb.kr hkv) rfl rfl rfl rfl rfl ?_; intro W61 f61 hr61)
            refine bodyPost_ret (bx_ret rfl rfl hr61) rfl ?_
            refine ⟨_, rfl, ?_⟩
            rw [HR.out]
            exact hm.fl (HS42.rb.kr hkv) f61 (by omega) (by omega)
          have tp : (t.toList == [112, 108, 117, 114, 97, 108]) = false := by simpa using tt
          by_cases tt2 : t.toList = [115, 101, 108, 101, 99, 116, 111, 114, 100, 105, 110, 97, 108]
          · have tord : (t.toList == [115, 101, 108, 101, 99, 116, 111, 114, 100, 105, 110, 97, 108]) = true := by rw [tt2]; decide
            have tc : (t.toList == [99, 104, 111, 105, 99, 101]) = false := by rw [tt2]; decide
            have HR : Hid (argM s i ts fs al = cplxM s true false i e2 ts5 fs al) := Lib.hid (by rw [HR3.out, argM4, if_pos (.inr ((ByteArray.toList_eq (bs := t)) ▸ tt2))])
            go_wp2_with (with_reducible refine gate_lx (p := 1) rfl ?_; refine wp_fill (HS3.bx.kr hk42) rfl rfl rfl rfl rfl ?_; intro W42 f42 hx42; have HS42 := HS3.next hA (Nat.le_refl _) hro41 hk42.mono f42 hx42; clear d0 d1 d2 d3 d4 d5 d6 d7 df; obtain ⟨d0, d1, d2, d3, d4, d5, d6, d7⟩ := HS42.bx.cells; have df := HS42.bx.free)
            refine (rcplx_any HP e2 hG hz he2 t true false rfl (i : Nat) tc (by omega) (by omega) HS42.ro).mono ?_
            rintro e' W60 ⟨v, rfl, hq⟩
            have hm := hq.kr HS42.kr
            obtain ⟨s', m', i', gl', go', ga', nl', cl', no', co', na', ca', ee', aa', hv, hkv⟩ := hq.val
            subst hv
            go_wp2_with (with_reducible refine gate_lx (p := 2) rfl ?_; refine wp_fill (HS42.rb.kr hkv) rfl rfl rfl rfl rfl ?_; intro W61 f61 hr61)
            refine bodyPost_ret (bx_ret rfl rfl hr61) rfl ?_
            refine ⟨_, rfl, ?_⟩
            rw [HR.out]
            exact hm.fl (HS42.rb.kr hkv) f61 (by omega) (by omega)
          have tord : (t.toList == [115, 101, 108, 101, 99, 116, 111, 114, 100, 105, 110, 97, 108]) = false := by simpa using tt2
          have HN1 : Hid (¬ (t.data.toList = wPlural ∨ t.data.toList = wOrdinal)) := Lib.hid (by rw [← ByteArray.toList_eq]; rintro (h | h); exact tt h; exact tt2 h)
          clear tt tt2
          by_cases tt : t.toList = [115, 101, 108, 101, 99, 116]
          · have tsel : (t.toList == [115, 101, 108, 101, 99, 116]) = true := by rw [tt]; decide
            have tc : (t.toList == [99, 104, 111, 105, 99, 101]) = false := by rw [tt]; decide
            have HR : Hid (argM s i ts fs al = cplxM s false false i e2 ts5 fs al) := Lib.hid (by rw [HR3.out, argM4, if_neg HN1.out, if_pos ((ByteArray.toList_eq (bs := t)) ▸ tt)])
            go_wp2_with (with_reducible refine gate_lx (p := 1) rfl ?_; refine wp_fill (HS3.bx.kr hk42) rfl rfl rfl rfl rfl ?_; intro W42 f42 hx42; have HS42 := HS3.next hA (Nat.le_refl _) hro41 hk42.mono f42 hx42; clear d0 d1 d2 d3 d4 d5 d6 d7 df; obtain ⟨d0, d1, d2, d3, d4, d5, d6, d7⟩ := HS42.bx.cells; have df := HS42.bx.free)
            refine (rcplx_any HP e2 hG hz he2 t false false rfl (i : Nat) tc (by omega) (by omega) HS42.ro).mono ?_
            rintro e' W60 ⟨v, rfl, hq⟩
            have hm := hq.kr HS42.kr
            obtain ⟨s', m', i', gl', go', ga', nl', cl', no', co', na', ca', ee', aa', hv, hkv⟩ := hq.val
            subst hv
            go_wp2_with (with_reducible refine gate_lx (p := 2) rfl ?_; refine wp_fill (HS42.rb.kr hkv) rfl rfl rfl rfl rfl ?_; intro W61 f61 hr61)
            refine bodyPost_ret (bx_ret rfl rfl hr61) rfl ?_
            refine ⟨_, rfl, ?_⟩
            rw [HR.out]
            exact hm.fl (HS42.rb.kr hkv) f61 (by omega) (by omega)
          have tsel : (t.toList == [115, 101, 108, 101, 99, 116]) = false := by simpa using tt
          have HN2 : Hid (¬ (t.data.toList = wSelect)) := Lib.hid (by rw [← ByteArray.toList_eq]; exact tt)
          clear tt
          by_cases tt : t.toList = [99, 104, 111, 105, 99, 101]
          · have tc : (t.toList == [99, 104, 111, 105, 99, 101]) = true := by rw [tt]; decide
            have HR : Hid (argM s i ts fs al = cplxM s false true i e2 ts5 fs al) := Lib.hid (by rw [HR3.out, argM4, if_neg HN1.out, if_neg HN2.out, if_pos ((ByteArray.toList_eq (bs := t)) ▸ tt)])
            go_wp2_with (with_reducible refine gate_lx (p := 1) rfl ?_; refine wp_fill (HS3.bx.kr hk42) rfl rfl rfl rfl rfl ?_; intro W42 f42 hx42; have HS42 := HS3.next hA (Nat.le_refl _) hro41 hk42.mono f42 hx42; clear d0 d1 d2 d3 d4 d5 d6 d7 df; obtain ⟨d0, d1, d2, d3, d4, d5, d6, d7⟩ := HS42.bx.cells; have df := HS42.bx.free)
            refine (rcplx_any HP e2 hG hz he2 t false true rfl (i : Nat) tc (by omega) (by omega) HS42.ro).mono ?_
            rintro e' W60 ⟨v, rfl, hq⟩
            have hm := hq.kr HS42.kr
            obtain ⟨s', m', i', gl', go', ga', nl', cl', no', co', na', ca', ee', aa', hv, hkv⟩ := hq.val
            subst hv
            go_wp2_with (with_reducible refine gate_lx (p := 2) rfl ?_; refine wp_fill (HS42.rb.kr hkv) rfl rfl rfl rfl rfl ?_; intro W61 f61 hr61)
            refine bodyPost_ret (bx_ret rfl rfl hr61) rfl ?_
            refine ⟨_, rfl, ?_⟩
            rw [HR.out]
            exact hm.fl (HS42.rb.kr hkv) f61 (by omega) (by omega)
          have tc : (t.toList == [99, 104, 111, 105, 99, 101]) = false := by simpa using tt
          have HN3 : Hid (¬ (t.data.toList = wChoice)) := Lib.hid (by rw [← ByteArray.toList_eq]; exact tt)
          clear tt
          have HH2 := Lib.hid (fun (c : Nat) (W : World) => rhere_any (s := s) (m := m) (gl := gl41) (nl := ts5.length) (cl := cl41) (go := go41) (no := fs.length) (co := co41) (ga := ga41) (na := al.length) (ca := ca41) (w := W) e2 0 0 c (by omega))
          have HR4 : Hid (argM s i ts fs al = if at1 s e2 125 then .ok (e2 + 1) (ts5 ++ [(4, (⟨#[]⟩ : ByteArray), ((e2 : Nat) : Int))]) fs al
            else if at1 s e2 44 then
              match styM s i (e2 + 1) (ts5 ++ [(6, (⟨#[]⟩ : ByteArray), ((e2 : Nat) : Int))]) fs al with
              | .er k a => .er k a
              | .ok j ts2 fs2 al2 => .ok (j + 1) (ts2 ++ [(4, (⟨#[]⟩ : ByteArray), ((j : Nat) : Int))]) fs2 al2
            else (failR s e2 i).mr ts5 fs al) := Lib.hid (by rw [HR3.out, argM4, if_neg HN1.out, if_neg HN2.out, if_neg HN3.out]; rfl)
          clear HR3 HN1 HN2 HN3
          cases h125 : at1 s e2 125 with
          | true =>
            have hlt := at1_lt _ _ _ h125
            have HR : Hid (argM s i ts fs al = .ok (e2 + 1) (ts5 ++ [(4, (⟨#[]⟩ : ByteArray), ((e2 : Nat) : Int))]) fs al) := Lib.hid (by rw [HR4.out, h125, if_pos rfl])
            go_wp2_with (first
                | (with_reducible refine gate_lx (p := 1) rfl ?_; refine wp_fill (HS3.bx.kr hk42) rfl rfl rfl rfl rfl ?_; intro W42 f42 hx42; have HS42 := HS3.next hA (Nat.le_refl _) hro41 hk42.mono f42 hx42; clear d0 d1 d2 d3 d4 d5 d6 d7 df; obtain ⟨d0, d1, d2, d3, d4, d5, d6, d7⟩ := HS42.bx.cells; have df := HS42.bx.free)
                | (go_at_call_of 41 (Value.int IntKind.u8 125); refine (HH2.out 125 _).mono ?_; rw [h125]; rintro e' W43 ⟨rfl, hb43⟩; have HS43 := HS42.later hb43; clear d0 d1 d2 d3 d4 d5 d6 d7 df; obtain ⟨d0, d1, d2, d3, d4, d5, d6, d7⟩ := HS43.bx.cells; have df := HS43.bx.free))
            have hcl := rcloses_any (s := s) (m := m) ((e2 : Nat) : Int) HS43.ro (by omega) (by omega) (by omega)
            generalize hts9 : ts5 ++ [(4, (⟨#[]⟩ : ByteArray), ((e2 : Nat) : Int))] = ts9 at hcl
            have Hts9 := Lib.hid hts9
            clear hts9
            refine hcl.mono ?_
            rintro e' W90 ⟨v, rfl, gl90, cl90, go90, co90, ga90, ca90, rfl, hro90, hk90⟩
            go_wp2_with (with_reducible refine gate_lx (p := 2) rfl ?_; refine wp_fill (HS43.rb.kr hk90) rfl rfl rfl rfl rfl ?_; intro W91 f91 hr91)
            refine bodyPost_ret (bx_ret rfl rfl hr91) rfl ?_
            refine ⟨_, rfl, ?_⟩
            rw [HR.out, Hts9.out]
            exact ⟨gl90, cl90, go90, co90, ga90, ca90, rfl, hro90.fl (HS43.rb.kr hk90) f91 (by omega), (HS43.kr.trans hk90.mono).fl f91 (by omega)⟩
          | false =>
            cases h44 : at1 s e2 44 with
            | false =>
              have HR : Hid (argM s i ts fs al = (failR s e2 i).mr ts5 fs al) := Lib.hid (by rw [HR4.out, h125, h44]; rfl)
              go_wp2_with (first
                | (with_reducible refine gate_lx (p := 1) rfl ?_; refine wp_fill (HS3.bx.kr hk42) rfl rfl rfl rfl rfl ?_; intro W42 f42 hx42; have HS42 := HS3.next hA (Nat.le_refl _) hro41 hk42.mono f42 hx42; clear d0 d1 d2 d3 d4 d5 d6 d7 df; obtain ⟨d0, d1, d2, d3, d4, d5, d6, d7⟩ := HS42.bx.cells; have df := HS42.bx.free)
                | (go_at_call_of 41 (Value.int IntKind.u8 125); refine (HH2.out 125 _).mono ?_; rw [h125]; rintro e' W43 ⟨rfl, hb43⟩; have HS43 := HS42.later hb43; clear d0 d1 d2 d3 d4 d5 d6 d7 df; obtain ⟨d0, d1, d2, d3, d4, d5, d6, d7⟩ := HS43.bx.cells; have df := HS43.bx.free)
                | (go_at_call_of 41 (Value.int IntKind.u8 44); refine (HH2.out 44 _).mono ?_; rw [h44]; rintro e' W44 ⟨rfl, hb44⟩; have HS44 := HS43.later hb44; clear d0 d1 d2 d3 d4 d5 d6 d7 df; obtain ⟨d0, d1, d2, d3, d4, d5, d6, d7⟩ := HS44.bx.cells; have df := HS44.bx.free))
              refine (rlacks_any (e2) (i) (e2) HS44.ro).mono ?_
              rintro e' W90 ⟨v, rfl, kk, aa, hfl, gl90, cl90, go90, co90, ga90, ca90, rfl, hro90, hk90⟩
              have HFL := Lib.hid hfl
              clear hfl
              go_wp2_with (with_reducible refine gate_lx (p := 2) rfl ?_; refine wp_fill (HS44.rb.kr hk90) rfl rfl rfl rfl rfl ?_; intro W91 f91 hr91)
              refine bodyPost_ret (bx_ret rfl rfl hr91) rfl ?_
              refine ⟨_, rfl, ?_⟩
              rw [HR.out, HFL.out]
              exact ⟨_, _, _, _, gl90, cl90, go90, co90, ga90, ca90, rfl, hro90.fl (HS44.rb.kr hk90) f91 (by omega), (HS44.kr.trans hk90.mono).fl f91 (by omega)⟩
            | true =>
              have hlt := at1_lt _ _ _ h44
              try (exfalso; omega)
              all_goals
                have eS5 : IntKind.i64.wrap (((e2 : Nat) : Int) + 1) = ((e2 + 1 : Nat) : Int) := by rw [IntWalk.i64_in _ (by omega)]; omega
                go_wp2_with (first
                  | (with_reducible refine gate_lx (p := 1) rfl ?_; refine wp_fill (HS3.bx.kr hk42) rfl rfl rfl rfl rfl ?_; intro W42 f42 hx42; have HS42 := HS3.next hA (Nat.le_refl _) hro41 hk42.mono f42 hx42; clear d0 d1 d2 d3 d4 d5 d6 d7 df; obtain ⟨d0, d1, d2, d3, d4, d5, d6, d7⟩ := HS42.bx.cells; have df := HS42.bx.free)
                  | (go_at_call_of 41 (Value.int IntKind.u8 125); refine (HH2.out 125 _).mono ?_; rw [h125]; rintro e' W43 ⟨rfl, hb43⟩; have HS43 := HS42.later hb43; clear d0 d1 d2 d3 d4 d5 d6 d7 df; obtain ⟨d0, d1, d2, d3, d4, d5, d6, d7⟩ := HS43.bx.cells; have df := HS43.bx.free)
                  | (go_at_call_of 41 (Value.int IntKind.u8 44); refine (HH2.out 44 _).mono ?_; rw [h44]; rintro e' W44 ⟨rfl, hb44⟩; have HS44 := HS43.later hb44; clear d0 d1 d2 d3 d4 d5 d6 d7 df; obtain ⟨d0, d1, d2, d3, d4, d5, d6, d7⟩ := HS44.bx.cells; have df := HS44.bx.free))
                have hput := rput_any (s := s) (m := m) (e2 : Nat) 6 (⟨#[]⟩ : ByteArray) (e2 : Nat) HS44.ro (by omega)
                generalize hts6 : ts5 ++ [(6, (⟨#[]⟩ : ByteArray), ((e2 : Nat) : Int))] = ts6 at hput
                have hl_ts6 : ts6.length ≤ 79005 := by rw [← hts6]; simp; omega
                have Hts6 := Lib.hid hts6
                clear hts6
                refine hput.mono ?_
                clear hput
                rintro e' W45 ⟨v, rfl, gl45, cl45, go45, co45, ga45, ca45, rfl, hro45, hk45⟩
                go_wp2_with (with_reducible refine gate_lx (p := 1) rfl ?_; refine wp_fill (HS44.bx.kr hk45) rfl rfl rfl rfl rfl ?_; intro W46 f46 hx46; have HS46 := HS44.next hA (Nat.le_refl _) hro45 hk45.mono f46 hx46; clear d0 d1 d2 d3 d4 d5 d6 d7 df; obtain ⟨d0, d1, d2, d3, d4, d5, d6, d7⟩ := HS46.bx.cells; have df := HS46.bx.free)
                have HS47 : SB true A w w.heap.size s m ((e2 + 1 : Nat) : Int) ts6 fs al gl45 cl45 go45 co45 ga45 ca45 (W46.setCell ⟨w.heap.size, 2, none⟩ (.int .i64 (((e2 : Nat) : Int) + 1))) := (HS46.set2 hA (Nat.le_refl _) (((e2 : Nat) : Int) + 1)).cast (by omega)
                generalize W46.setCell ⟨w.heap.size, 2, none⟩ (.int .i64 (((e2 : Nat) : Int) + 1)) = W47 at *
                clear d0 d1 d2 d3 d4 d5 d6 d7 df
                have d0 : True := trivial
                have d1 : True := trivial
                have d2 : True := trivial
                have d3 : True := trivial
                have d4 : True := trivial
                have d5 : True := trivial
                have d6 : True := trivial
                have d7 : True := trivial
                have df : True := trivial
                have HR5 : Hid (argM s i ts fs al = match styM s i (e2 + 1) ts6 fs al with
                  | .er k a => .er k a
                  | .ok j ts2 fs2 al2 => .ok (j + 1) (ts2 ++ [(4, (⟨#[]⟩ : ByteArray), ((j : Nat) : Int))]) fs2 al2) := Lib.hid (by rw [HR4.out, h125, h44, ← Hts6.out]; rfl)
                clear HR4 Hts6 HH2 h125 h44
                refine (rstyle_any HT (e2 + 1) hG hz (by omega) (i : Nat) (by omega) (by omega) HS47.ro).mono ?_
                rintro e' W48 ⟨v, rfl, hq⟩
                have hst := styM_er (s := s) (op := (i : Int)) (i := e2 + 1) (ts := ts6) (fs := fs) (al := al)
                rcases hsm : styM s i (e2 + 1) ts6 fs al with ⟨j, ts7, fs7, al7⟩ | ⟨kk, aa⟩
                · rw [hsm] at hq hst
                  obtain ⟨gl48, cl48, go48, co48, ga48, ca48, rfl, hro48, hk48⟩ := hq
                  obtain ⟨hjs2, hl7⟩ := hst.out' _ _ _ _ rfl
                  have hl7' : ts7.length ≤ 79006 := by omega
                  clear hl7
                  have HR : Hid (argM s i ts fs al = .ok (j + 1) (ts7 ++ [(4, (⟨#[]⟩ : ByteArray), ((j : Nat) : Int))]) fs7 al7) := Lib.hid (by rw [HR5.out, hsm])
                  clear HR5 hsm hst
                  go_wp2_with (with_reducible refine gate_lx (p := 1) rfl ?_; refine wp_fill (HS47.bx.kr hk48) rfl rfl rfl rfl rfl ?_; intro W49 f49 hx49; have HS49 := HS47.next hA (Nat.le_refl _) hro48 hk48 f49 hx49; clear d0 d1 d2 d3 d4 d5 d6 d7 df; obtain ⟨d0, d1, d2, d3, d4, d5, d6, d7⟩ := HS49.bx.cells; have df := HS49.bx.free)
                  have hcl := rcloses_any (s := s) (m := m) ((j : Nat) : Int) HS49.ro (by omega) (by omega) (by omega)
                  generalize hts9 : ts7 ++ [(4, (⟨#[]⟩ : ByteArray), ((j : Nat) : Int))] = ts9 at hcl
                  have Hts9 := Lib.hid hts9
                  clear hts9
                  refine hcl.mono ?_
                  rintro e' W90 ⟨v, rfl, gl90, cl90, go90, co90, ga90, ca90, rfl, hro90, hk90⟩
                  go_wp2_with (with_reducible refine gate_lx (p := 2) rfl ?_; refine wp_fill (HS49.rb.kr hk90) rfl rfl rfl rfl rfl ?_; intro W91 f91 hr91)
                  refine bodyPost_ret (bx_ret rfl rfl hr91) rfl ?_
                  refine ⟨_, rfl, ?_⟩
                  rw [HR.out, Hts9.out]
                  exact ⟨gl90, cl90, go90, co90, ga90, ca90, rfl, hro90.fl (HS49.rb.kr hk90) f91 (by omega), (HS49.kr.trans hk90.mono).fl f91 (by omega)⟩
                · rw [hsm] at hq hst
                  obtain ⟨i8, ts8, fs8, al8, gl48, cl48, go48, co48, ga48, ca48, rfl, hro48, hk48⟩ := hq
                  have hk := hst.out _ _ rfl
                  have ek : (kk != 0) = true := by simp; omega
                  have HR : Hid (argM s i ts fs al = .er kk aa) := Lib.hid (by rw [HR5.out, hsm])
                  clear HR5 hsm hst hk
                  have hbx8 := HS47.bx.kr hk48
                  have hrb8 := HS47.rb.kr hk48
                  go_wp2_with (first
                    | (with_reducible refine gate_lx (p := 1) rfl ?_; refine wp_fill hbx8 rfl rfl rfl rfl rfl ?_; intro W49 f49 hx49; clear d0 d1 d2 d3 d4 d5 d6 d7 df; obtain ⟨d0, d1, d2, d3, d4, d5, d6, d7⟩ := hx49.cells; have df := hx49.free)
                    | (with_reducible refine gate_lx (p := 2) rfl ?_; refine wp_fill (hrb8.fl f49 (by omega)) rfl rfl rfl rfl rfl ?_; intro W50 f50 hr50))
                  refine bodyPost_ret (bx_ret rfl rfl hr50) rfl ?_
                  refine ⟨_, rfl, ?_⟩
                  rw [HR.out]
                  exact ⟨i8, ts8, fs8, al8, gl48, cl48, go48, co48, ga48, ca48, rfl, (hro48.fl hbx8 f49 hA).fl (hrb8.fl f49 (by omega)) f50 (by omega), ((HS47.kr.trans hk48).fl f49 (Nat.le_refl _)).fl f50 (by omega)⟩
end
end Go.Proofs.YtcnhklcbibpjpaaGreatDoor
