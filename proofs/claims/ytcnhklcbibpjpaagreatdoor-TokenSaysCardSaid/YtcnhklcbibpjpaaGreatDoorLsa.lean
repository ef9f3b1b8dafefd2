/- The law TokenSays. -/
import Derived.Test.YtcnhklcbibpjpaaGreatDoorAut
import Derived.Test.YtcnhklcbibpjpaaGreatDoorSim
import Derived.Test.YtcnhklcbibpjpaaGreatDoorSme
set_option linter.unusedVariables false
set_option linter.unusedSimpArgs false
namespace Go.Proofs.YtcnhklcbibpjpaaGreatDoor
open Go.RowKit P Ext

theorem ownsRow_later {W W' : World} {b : Nat} {e : TypeId} {z : Nat} {v : Value} {n : Nat} {xs : List Value} (h : W.ownsRow b e z v n xs) (hb : Below W.heap.size W W') : W'.ownsRow b e z v n xs :=
  ownsRow_sameN h fun k c fz hk _ => (hb.block k (Array.getElem?_eq_some_iff.1 hk).1).trans hk

theorem lexO_1 {s : ByteArray} (hz : ¬ 65536 < s.size) : lexO s 1 = lexR s 1 := by rw [lexO, if_neg hz]; rfl
theorem lexO_2 {s : ByteArray} (hz : ¬ 65536 < s.size) : lexO s 2 = lexR s 2 := by rw [lexO, if_neg hz]; rfl

set_option maxRecDepth 100000 in
set_option maxHeartbeats 8000000 in
theorem TokenSays_any (s : ByteArray) (w : World) (hG : GlH w) :
    Calls Tryz.prog 7 #[.string s] w fun e w' => e = .returned (.bool true) ∧ Below w.heap.size w w' := by
  have HL := Lib.hid (Lex_any s 1 w hG)
  go_enter Tryz.func7, Tryz.ntmps7
  go_wp2_with fail
  refine HL.out.mono ?_
  rintro e w1 ⟨hp, hb1⟩
  cases hr : lexO s 1 with
  | er k a =>
    rw [hr] at hp
    obtain rfl := hp
    have hk : (k != 0) = true := by
      by_cases hz : 65536 < s.size
      · rw [lexO, if_pos hz] at hr; cases hr; rfl
      · rw [lexO_1 hz] at hr; simpa using lexR_ne hr
    have ht : autoO s = s := by
      unfold autoO
      by_cases hz : 65536 < s.size
      · rw [if_pos hz]
      · rw [if_neg hz, ← lexO_1 hz, hr]
    have HA := Lib.hid (AutoQuote_any s w1 (hG.bel hb1))
    rw [ht] at HA
    clear hr ht HL
    go_wp2_with fail
    refine HA.out.mono ?_
    rintro e w2 ⟨rfl, hb2⟩
    have hb3 := hb1.trans (hb2.mono hb1.size)
    have e1 : (s.toList == s.toList) = true := by simp
    go_wp2_with fail
    refine (awake_any w2 (hG.bel hb3)).mono ?_
    rintro e w4 ⟨rfl, hb4⟩
    go_wp2_with fail
    go_ret
    exact ⟨rfl, hb3.trans (hb4.mono hb3.size)⟩
  | ok j ts al =>
    rw [hr] at hp
    obtain ⟨v, rfl, ho⟩ := hp
    have hz : ¬ 65536 < s.size := fun hz => by rw [lexO, if_pos hz] at hr; cases hr
    rw [lexO_1 hz] at hr
    have ht : autoO s = ⟨(autoL s al 0).toArray⟩ := by unfold autoO; rw [if_neg hz, hr]
    obtain ⟨j', ts', hs1, hs2⟩ := lex_says hr
    rw [← ht] at hs1
    have HA := Lib.hid (AutoQuote_any s w1 (hG.bel hb1))
    have hvs : ∃ g k c, v = .slice g k c := by
      rcases ho.2 with ⟨rfl, _⟩ | ⟨g, cap, cur, rfl, _⟩ <;> exact ⟨_, _, _, rfl⟩
    obtain ⟨g, kk, cc, rfl⟩ := hvs
    clear hr ht HL
    generalize autoO s = t at *
    go_wp2_with fail
    refine HA.out.mono ?_
    rintro e w2 ⟨rfl, hb2⟩
    have ho2 := ownsRow_later ho hb2
    have hb3 := hb1.trans (hb2.mono hb1.size)
    have HM := Lib.hid (Lex_any t 2 w2 (hG.bel hb3))
    go_wp2_with fail
    refine HM.out.mono ?_
    rintro e w3 ⟨hp, hb4⟩
    have ho3 := ownsRow_later ho2 hb4
    have hb5 := hb3.trans (hb4.mono hb3.size)
    by_cases hzt : 65536 < t.size
    · have d : decide ((65536 : Int) < t.size) = true := by simp; omega
      rw [lexO, if_pos hzt] at hp
      obtain rfl := hp
      go_wp2_with fail
      refine (awake_any w3 (hG.bel hb5)).mono ?_
      rintro e w4 ⟨rfl, hb6⟩
      go_wp2_with fail
      go_ret
      exact ⟨rfl, hb5.trans (hb6.mono hb5.size)⟩
    · have d : decide ((65536 : Int) < t.size) = false := by simp; omega
      rw [lexO_2 hzt, hs1] at hp
      obtain ⟨v2, rfl, ho4⟩ := hp
      have hvs2 : ∃ g k c, v2 = .slice g k c := by
        rcases ho4.2 with ⟨rfl, _⟩ | ⟨g, cap, cur, rfl, _⟩ <;> exact ⟨_, _, _, rfl⟩
      obtain ⟨g2, kk2, cc2, rfl⟩ := hvs2
      have HS := Lib.hid (Same_any _ _ ts ts' false _ _ w3 ho3 ho4)
      rw [sameB_sm hs2] at HS
      clear ho ho2 ho3 ho4 hs1 hs2
      go_wp2_with fail
      refine HS.out.mono ?_
      rintro e w4 ⟨rfl, hb7⟩
      have hb8 := hb5.trans (hb7.mono hb5.size)
      go_wp2_with fail
      refine (awake_any w4 (hG.bel hb8)).mono ?_
      rintro e w5 ⟨rfl, hb6⟩
      go_wp2_with fail
      go_ret
      exact ⟨rfl, hb8.trans (hb6.mono hb8.size)⟩

end Go.Proofs.YtcnhklcbibpjpaaGreatDoor
