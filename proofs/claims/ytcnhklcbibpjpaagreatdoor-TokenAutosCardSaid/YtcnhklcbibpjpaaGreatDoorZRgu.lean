/- Lemmas behind the laws of the tokens; no conditions. -/
import Derived.Test.YtcnhklcbibpjpaaGreatDoorZRgt
import Derived.Test.YtcnhklcbibpjpaaGreatDoorZRct
import Derived.Test.YtcnhklcbibpjpaaGreatDoorZSme
set_option linter.unusedVariables false
set_option linter.unusedSimpArgs false

namespace Go.Proofs.YtcnhklcbibpjpaaGreatDoor
open Go.RowKit P Ext PRfa
theorem lexM_ne {s : ByteArray} {m k a : Int} (h : lexM s m = .er k a) : k ≠ 0 := by
  unfold lexM at h
  cases hr : lexR s m with
  | er k2 a2 => rw [hr] at h; cases h; exact lexR_ne hr
  | ok j ts al => rw [hr] at h; cases h
theorem rlexM (s : ByteArray) (m : Int) (w : World) (hG : GlH w) (hz : ¬ 65536 < s.size) : Calls Tryz.prog 21 #[.string s, .int .i64 m] w fun e w' => ∃ v, e = .returned v ∧ RM w s m w (lexM s m) v w' :=
  rlex_any parseC trimC identC hG (by omega) (lexM s m) (lex_runs (style_eq (s := s))) (fun k a h => lexM_ne h)
set_option maxRecDepth 100000 in
set_option maxHeartbeats 4000000 in
theorem rLex_any (s : ByteArray) (m : Int) (w : World) (hG : GlH w) :
    Calls Tryz.prog 11 #[.string s, .int .i64 m] w fun e w' => LexPost w.heap.size (lexO s m) e w' ∧ Below w.heap.size w w' := by
  by_cases hz : 65536 < s.size
  · have HF : Hid (lexO s m = .er 2 0) := Lib.hid (if_pos hz)
    have d : decide ((65536 : Int) < s.size) = true := by simp; omega
    go_enter Tryz.func11, Tryz.ntmps11
    go_wp2
    go_ret3
    rw [HF.out]
    exact ⟨rfl, Below.refl _ _⟩
  · have d : decide ((65536 : Int) < s.size) = false := by simp; omega
    have HL := Lib.hid (rlexM s m w hG hz)
    by_cases hm : m = 1 ∨ m = 2
    · have HO : Hid (lexO s m = lexR s m) := Lib.hid (by rw [lexO, if_neg hz, if_pos (by rcases hm with rfl | rfl <;> rfl)])
      have HM : Hid (lexM s m = match lexR s m with | .er k a => .er k a | .ok j ts al => .ok j ts [] al) := Lib.hid rfl
      rcases hr : lexR s m with ⟨j, ts, al⟩ | ⟨k, a⟩
      · rw [hr] at HM HO
        have HP : Hid (∀ e w', LexPost w.heap.size (lexO s m) e w' = ∃ v, e = .returned (.tuple #[v, .int .i64 0, .int .i64 0]) ∧ w'.ownsRow w.heap.size 30 3 v ts.length (tkCells ts)) := Lib.hid (fun e w' => by rw [HO.out]; rfl)
        have e1 : ((m != 1) && (m != 2)) = false := by rcases hm with rfl | rfl <;> rfl
        have e2 : (m != 1) = true → (m != 2) = false := by rcases hm with rfl | rfl <;> decide
        clear hr
        rcases hm1 : (m != 1) with _ | _
        · clear e1 e2 hm
          go_enter Tryz.func11, Tryz.ntmps11
          go_wp2_with fail
          refine HL.out.mono ?_
          rintro e' w2 ⟨v, rfl, hq⟩
          rw [HM.out] at hq
          obtain ⟨gl, cl, go, co, ga, ca, rfl, hro, hk⟩ := hq
          go_wp2_with (with_reducible refine gate_lx (p := 7) rfl ?_; refine wp_fill (Bx.new w2) rfl rfl rfl rfl rfl ?_; intro W3 f3 hx3; obtain ⟨d0, d1, d2, d3, d4, d5, d6, d7⟩ := hx3.cells)
          go_ret3
          rw [HP.out]
          exact ⟨⟨_, rfl, ((hro.alloc _).fl (Bx.new w2) f3 hro.bel.size).tok⟩, ((hro.alloc _).fl (Bx.new w2) f3 hro.bel.size).bel⟩
        · have hm2 := e2 hm1
          clear e1 e2 hm
          go_enter Tryz.func11, Tryz.ntmps11
          go_wp2_with fail
          refine HL.out.mono ?_
          rintro e' w2 ⟨v, rfl, hq⟩
          rw [HM.out] at hq
          obtain ⟨gl, cl, go, co, ga, ca, rfl, hro, hk⟩ := hq
          go_wp2_with (with_reducible refine gate_lx (p := 7) rfl ?_; refine wp_fill (Bx.new w2) rfl rfl rfl rfl rfl ?_; intro W3 f3 hx3; obtain ⟨d0, d1, d2, d3, d4, d5, d6, d7⟩ := hx3.cells)
          go_ret3
          rw [HP.out]
          exact ⟨⟨_, rfl, ((hro.alloc _).fl (Bx.new w2) f3 hro.bel.size).tok⟩, ((hro.alloc _).fl (Bx.new w2) f3 hro.bel.size).bel⟩
      · rw [hr] at HM HO
        have HP : Hid (∀ e w', LexPost w.heap.size (lexO s m) e w' = (e = .returned (.tuple #[.slice none 0 0, .int .i64 a, .int .i64 k]))) := Lib.hid (fun e w' => by rw [HO.out]; rfl)
        have hk : k ≠ 0 := lexR_ne hr
        have ek : (k != 0) = true := by simpa using hk
        have e2 : (m != 1) = true → (m != 2) = false := by rcases hm with rfl | rfl <;> decide
        clear hr hk
        rcases hm1 : (m != 1) with _ | _
        · clear e2 hm
          go_enter Tryz.func11, Tryz.ntmps11
          go_wp2_with fail
          refine HL.out.mono ?_
          rintro e' w2 ⟨v, rfl, hq⟩
          rw [HM.out] at hq
          obtain ⟨i, ts, fs, al, gl, cl, go, co, ga, ca, rfl, hro, hk⟩ := hq
          go_wp2_with (with_reducible refine gate_lx (p := 7) rfl ?_; refine wp_fill (Bx.new w2) rfl rfl rfl rfl rfl ?_; intro W3 f3 hx3; obtain ⟨d0, d1, d2, d3, d4, d5, d6, d7⟩ := hx3.cells)
          go_quiet (fail)
          go_wp2_with fail
          go_ret3
          rw [HP.out]
          exact ⟨rfl, Below.drewN' ((hro.alloc _).fl (Bx.new w2) f3 hro.bel.size).bel _⟩
        · have hm2 := e2 hm1
          clear e2 hm
          go_enter Tryz.func11, Tryz.ntmps11
          go_wp2_with fail
          refine HL.out.mono ?_
          rintro e' w2 ⟨v, rfl, hq⟩
          rw [HM.out] at hq
          obtain ⟨i, ts, fs, al, gl, cl, go, co, ga, ca, rfl, hro, hk⟩ := hq
          go_wp2_with (with_reducible refine gate_lx (p := 7) rfl ?_; refine wp_fill (Bx.new w2) rfl rfl rfl rfl rfl ?_; intro W3 f3 hx3; obtain ⟨d0, d1, d2, d3, d4, d5, d6, d7⟩ := hx3.cells)
          go_quiet (fail)
          go_wp2_with fail
          go_ret3
          rw [HP.out]
          exact ⟨rfl, Below.drewN' ((hro.alloc _).fl (Bx.new w2) f3 hro.bel.size).bel _⟩
    · have HF : Hid (lexO s m = .er 1 0) := Lib.hid (by
        rw [lexO, if_neg hz, if_neg]
        simp only [Bool.or_eq_true, beq_iff_eq]
        exact hm)
      have m1 : (m != 1) = true := by simp; omega
      have m2 : (m != 2) = true := by simp; omega
      clear hm
      go_enter Tryz.func11, Tryz.ntmps11
      go_wp2
      go_ret3
      rw [HF.out]
      exact ⟨rfl, Below.refl _ _⟩
theorem ownsRow_laterU {W W' : World} {b : Nat} {e : TypeId} {z : Nat} {v : Value} {n : Nat} {xs : List Value} (h : W.ownsRow b e z v n xs) (hb : Below W.heap.size W W') : W'.ownsRow b e z v n xs :=
  ownsRow_sameN h fun k c fz hk _ => (hb.block k (Array.getElem?_eq_some_iff.1 hk).1).trans hk
set_option maxRecDepth 100000 in
set_option maxHeartbeats 4000000 in
theorem TokenLexes_any (s : ByteArray) (m : Int) (w : World) (hG : GlH w) :
    Calls Tryz.prog 3 #[.string s, .int .i64 m] w fun e w' => e = .returned (.bool true) ∧ Below w.heap.size w w' := by
  have HL := Lib.hid (Lex_any s m w hG)
  go_enter Tryz.func3, Tryz.ntmps3
  go_wp2_with fail
  refine HL.out.mono ?_
  rintro e w1 ⟨hp, hb1⟩
  have HR := Lib.hid (rLex_any s m w1 (hG.bel hb1))
  cases hr : lexO s m with
  | er k a =>
    rw [hr] at hp HR
    obtain rfl := hp
    clear hr HL
    go_wp2_with fail
    refine HR.out.mono ?_
    rintro e w2 ⟨hp, hb2⟩
    obtain rfl := hp
    have hb3 := hb1.trans (hb2.mono hb1.size)
    have HS := Lib.hid (Same_any (.slice none 0 0) (.slice none 0 0) [] [] true 0 0 w2 (World.ownsRow_nil _ _ _ _) (World.ownsRow_nil _ _ _ _))
    have e1 : (k == k) = true := by simp
    have e2 : (a == a) = true := by simp
    go_wp2_with fail
    refine HS.out.mono ?_
    rintro e w3 ⟨rfl, hb4⟩
    have hb5 := hb3.trans (hb4.mono hb3.size)
    have e3 : sameB true [] [] = true := rfl
    go_wp2_with fail
    refine (awake_any w3 (hG.bel hb5)).mono ?_
    rintro e w4 ⟨rfl, hb6⟩
    go_wp2_with fail
    go_ret
    exact ⟨rfl, hb5.trans (hb6.mono hb5.size)⟩
  | ok j ts al =>
    rw [hr] at hp HR
    obtain ⟨v, rfl, ho⟩ := hp
    have hvs : ∃ g k c, v = .slice g k c := by
      rcases ho.2 with ⟨rfl, _⟩ | ⟨g, cap, cur, rfl, _⟩ <;> exact ⟨_, _, _, rfl⟩
    obtain ⟨g, kk, cc, rfl⟩ := hvs
    clear hr HL
    go_wp2_with fail
    refine HR.out.mono ?_
    rintro e w2 ⟨⟨v2, rfl, ho2⟩, hb2⟩
    have hb3 := hb1.trans (hb2.mono hb1.size)
    have ho3 := ownsRow_laterU ho hb2
    have hvs2 : ∃ g k c, v2 = .slice g k c := by
      rcases ho2.2 with ⟨rfl, _⟩ | ⟨g, cap, cur, rfl, _⟩ <;> exact ⟨_, _, _, rfl⟩
    obtain ⟨g2, kk2, cc2, rfl⟩ := hvs2
    have HS := Lib.hid (Same_any _ _ ts ts true _ _ w2 ho3 ho2)
    rw [sameB_refl] at HS
    clear ho ho2 ho3
    go_wp2_with fail
    refine HS.out.mono ?_
    rintro e w3 ⟨rfl, hb4⟩
    have hb5 := hb3.trans (hb4.mono hb3.size)
    go_wp2_with fail
    refine (awake_any w3 (hG.bel hb5)).mono ?_
    rintro e w4 ⟨rfl, hb6⟩
    go_wp2_with fail
    go_ret
    exact ⟨rfl, hb5.trans (hb6.mono hb5.size)⟩
end Go.Proofs.YtcnhklcbibpjpaaGreatDoor
