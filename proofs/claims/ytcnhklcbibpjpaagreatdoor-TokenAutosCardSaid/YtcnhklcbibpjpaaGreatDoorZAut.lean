/- Lemmas behind the laws of the tokens; no conditions. -/
import Derived.Test.YtcnhklcbibpjpaaGreatDoorZCop
import Derived.Test.YtcnhklcbibpjpaaGreatDoorZMG
set_option linter.unusedVariables false
set_option linter.unusedSimpArgs false

namespace Go.Proofs.YtcnhklcbibpjpaaGreatDoor
open Go.RowKit Go.Shelf P Ext
attribute [local go_sem] Oper.semAt_some
def autoO (s : ByteArray) : ByteArray :=
  if 65536 < s.size then s else match lexR s 1 with
    | .ok _ _ al => ⟨(autoL s al 0).toArray⟩
    | .er .. => s
def autoW (s : ByteArray) (w : World) : World := (w.alloc (.cells #[.string s, .int .i64 1, .int .i64 0, .int .i64 0, .int .i64 0, .slice none 0 0, .nilFunc] 43)).alloc (.cells #[.pointer (some ⟨w.heap.size, 0, none⟩)] 39)
theorem autoW_facts (s : ByteArray) (w : World) (hG : GlH w) (hz : s.size ≤ 65536) :
    (autoW s w).heap[w.heap.size + 1]? = some (.cells #[.pointer (some ⟨w.heap.size, 0, none⟩)] 39 (0, 0)) ∧
    Lx w.heap.size w.heap.size s 1 0 0 0 [] .nilFunc (autoW s w) ∧ Below w.heap.size w (autoW s w) := by
  have hb1 : Below w.heap.size w (w.alloc (.cells #[.string s, .int .i64 1, .int .i64 0, .int .i64 0, .int .i64 0, .slice none 0 0, .nilFunc] 43)) := (Below.refl _ w).alloc (Nat.le_refl _) _
  have h1 := World.alloc_heap_new w (.cells #[.string s, .int .i64 1, .int .i64 0, .int .i64 0, .int .i64 0, .slice none 0 0, .nilFunc] 43)
  unfold autoW
  generalize hw1 : w.alloc (.cells #[.string s, .int .i64 1, .int .i64 0, .int .i64 0, .int .i64 0, .slice none 0 0, .nilFunc] 43) = w1 at *
  have hs1 : w1.heap.size = w.heap.size + 1 := by rw [← hw1]; simp
  have h2 := World.alloc_heap_new w1 (.cells #[.pointer (some ⟨w.heap.size, 0, none⟩)] 39)
  have hb2 : Below w1.heap.size w1 (w1.alloc (.cells #[.pointer (some ⟨w.heap.size, 0, none⟩)] 39)) := (Below.refl _ w1).alloc (Nat.le_refl _) _
  generalize w1.alloc (.cells #[.pointer (some ⟨w.heap.size, 0, none⟩)] 39) = w2 at *
  rw [hs1] at h2 hb2
  have hb : Below w.heap.size w w2 := hb1.trans (hb2.mono (by omega))
  have k1 : w2.heap[w.heap.size]? = some (.cells #[.string s, .int .i64 1, .int .i64 0, .int .i64 0, .int .i64 0, .slice none 0 0, .nilFunc] 43 (0, 0)) := (hb2.block _ (by omega)).trans h1
  exact ⟨h2, ⟨Nat.le_refl _, hG.gl.below hG.sz hb, hz, by simp, .slice none 0 0, k1, World.ownsRow_nil _ _ _ _⟩, hb⟩
theorem row_cells {W : World} {b : Nat} {v : Value} {al : List Nat} (h : W.ownsRow b 3 1 v al.length (al.map fun n : Nat => Value.int .i64 n)) :
    ∃ ad cap, v = .slice ad al.length cap ∧ ∀ (i : Nat) (hi : i < al.length), ∃ g, ad = some ⟨g, 0, none⟩ ∧ g < W.heap.size ∧ W.cell? ⟨g, i, none⟩ = some (.int .i64 ((al[i]'hi : Nat) : Int)) := by
  rcases h.2 with ⟨rfl, h0⟩ | ⟨g, cap, cur, rfl, hb, hg, h1, h2, h3, h4⟩
  · exact ⟨none, 0, by rw [h0], fun i hi => by omega⟩
  · refine ⟨some ⟨g, 0, none⟩, cap, rfl, fun i hi => ⟨g, rfl, (Array.getElem?_eq_some_iff.1 hg).1, ?_⟩⟩
    rw [Lib.cell_of_heap hg, ← Array.getElem?_toList]
    have : (cur.toList.take (al.length * 1))[i]? = some (.int .i64 ((al[i]'hi : Nat) : Int)) := by rw [h4]; simp [hi]
    rw [List.getElem?_take_of_lt (by omega)] at this
    exact this
set_option maxRecDepth 100000 in
set_option maxHeartbeats 8000000 in
theorem AutoQuote_any (s : ByteArray) (w : World) (hG : GlH w) :
    Calls Tryz.prog 14 #[.string s] w fun e w' => e = .returned (.string (autoO s)) ∧ Below w.heap.size w w' := by
  by_cases hz : 65536 < s.size
  · have HF : Hid (autoO s = s) := Lib.hid (if_pos hz)
    have d : decide ((65536 : Int) < s.size) = true := by simp; omega
    go_enter Tryz.func14, Tryz.ntmps14
    go_wp2
    go_ret
    rw [HF.out]
    exact ⟨rfl, Below.refl _ _⟩
  · have d : decide ((65536 : Int) < s.size) = false := by simp; omega
    have HF : Hid (autoO s = match lexR s 1 with | .ok _ _ al => ⟨(autoL s al 0).toArray⟩ | .er .. => s) := Lib.hid (if_neg hz)
    have hn : 8 ≤ w.heap.size := hG.2
    refine (callsIn_wide (n := 2)).1 ?_
    refine callsIn_of_wp_marks Tryz.func14 rfl trivial ?_ rfl
    refine wpIn_wide.2 ?_
    simp only [Tryz.ntmps14, List.size_toArray, List.length_cons, List.length_nil, Nat.reduceAdd, Nat.reduceSub, Array.replicate_succ, Array.replicate_zero, List.push_toArray, List.append_toArray, List.nil_append, List.cons_append]
    go_wp2_with (go_at_call 20; refine (tokens_any _ _).mono ?_; rintro e w' ⟨rfl, rfl⟩)
    refine (?_ : Code.wp _ _ _ _ (autoW s w))
    obtain ⟨hB, hx, hb⟩ := autoW_facts s w hG (by omega)
    generalize autoW s w = W0 at *
    refine lex_range (B := w.heap.size + 1) hn (fun _ _ => True) rfl hB hx rfl trivial (fun ts W W' h hk => trivial) (fun ts W k o o' h hk ho => trivial) (fun _ _ _ => True) (fun _ _ _ _ _ _ _ _ _ => trivial) ?assign ?body ?done
    case assign =>
      intro k ts t W K hi hts hK
      gi_wp2
      exact hK _ _ (KeepsFrom.refl _ _) ⟨Below.refl _ _, fun _ _ _ _ h _ => h⟩ trivial trivial
    case body =>
      intro k ts t a' W hi hts ha
      gi_wp2
      exact ⟨KeepsFrom.refl _ _, ⟨Below.refl _ _, fun _ _ _ _ h _ => h⟩, trivial⟩
    case done =>
      intro D W hD hdef hend hbel
      have hbw : Below w.heap.size w W := hb.trans hbel
      have hnD : w.heap.size ≤ D := by have := hb.size; omega
      obtain ⟨yv, hend⟩ := hend
      cases hr : lexR s 1 with
      | er e a =>
        have HR : Hid (autoO s = s) := Lib.hid (by rw [HF.out, hr])
        rw [hr] at hend
        obtain ⟨i, ts, al, hx2, hi2⟩ := hend
        obtain ⟨v, hc, ho⟩ := hx2.own
        obtain ⟨d0, d1, d2, d3, d4, d5, d6⟩ := hc.cells
        have hne : (e != 0) = true := by simpa using lexR_ne hr
        have hbD : Below w.heap.size w (W.putObj D (.deferred none)) := hbw.trans (KeptY.putObj (n0 := w.heap.size) _ hdef rfl hnD).below
        clear hr hx hB hc ho hx2 hi2 d0 d1 d2 d4 d5 d6 HF
        go_wp2_with fail
        refine ⟨by simp, .inl ⟨_, _, rfl, run_takeDeferred (by exact hdef), ?_⟩⟩
        exact ⟨_, results_tmp rfl _ _ _, by rw [HR.out]; rfl, hbD⟩
      | ok jj ts al =>
        have HR : Hid (autoO s = ⟨(autoL s al 0).toArray⟩) := Lib.hid (by rw [HF.out, hr])
        obtain ⟨hri, hjs⟩ := lexR_rise hr
        rw [hr] at hend
        obtain ⟨hx2, -⟩ := hend
        have haln := hx2.aln
        obtain ⟨v, hc, ho⟩ := hx2.own
        obtain ⟨d0, d1, d2, d3, d4, d5, d6⟩ := hc.cells
        obtain ⟨ad, cap, rfl, hrow⟩ := row_cells ho
        have hdlt := (Array.getElem?_eq_some_iff.1 hdef).1
        clear hr hx hB hc ho hx2 d0 d1 d2 d4 d6 HF
        have hal : al.length ≤ 65536 := by omega
        have hwW : w.heap.size < W.heap.size := by have := hb.size; have := hD; omega
        have d5a : ∀ o : Obj, (W.alloc o).cell? ⟨w.heap.size, 5, none⟩ = some (.slice ad al.length cap) := fun o => (World.cell?_of_block (Below.heap_alloc W o _ hwW)).trans d5
        go_wp2_with fail
        have hB0 := BK.new W
        generalize W.alloc (.cells #[.pointer none, .slice none 0 0] 54) = Wb at *
        go_loopw [5, 7, 29] (fun v5 _ v29 wr => ∃ (fr k : Nat) (acc : List UInt8), v5 = .int .i64 (fr : Int) ∧ v29 = .int .i64 (k : Int) ∧ k ≤ al.length ∧ acc.length ≤ fr + k ∧ fr ≤ s.size ∧ Rise s fr s.size (al.drop k) ∧ Hid (autoL s al 0 = acc ++ autoL s (al.drop k) fr) ∧ BK W acc wr) (fun _ _ v29 _ => al.length - valN v29)
        case atStart => exact ⟨0, 0, [], rfl, rfl, by omega, by simp, by omega, by simpa using Rise.append (show Rise s jj s.size [] from hjs) hri, Lib.hid (by simp), hB0⟩
        case round =>
          obtain ⟨fr, k, acc, rfl, rfl, hk, hacc, hfr, hR, HG, HB⟩ := hrel
          by_cases hlt : k < al.length
          · have d1 : decide ((k : Int) < (al.length : Int)) = true := by simp; omega
            obtain ⟨g, rfl, hg, hc⟩ := hrow k hlt
            rw [← World.cell?_of_block (a := ⟨g, k, none⟩) (HB.bel.block g hg)] at hc
            rw [List.drop_eq_getElem_cons hlt] at hR HG
            generalize al[k]'hlt = a at *
            have ha1 : a + 1 ≤ s.size := Rise.le hR.2.2
            have hfa : fr ≤ a := hR.1
            have HR2 := Lib.hid hR.2.2
            have HG2 : Hid (autoL s al 0 = (acc ++ ((s.extract fr (a + 1)).data.toList ++ [39])) ++ autoL s (al.drop (k + 1)) (a + 1)) := Lib.hid (by rw [HG.out, autoL]; simp)
            have hlx : (s.extract fr (a + 1)).size = a + 1 - fr := by simp [ByteArray.size_extract]; omega
            clear HG hR
            go_wp2_with fail
            refine (HB.write _ (by rw [hlx]; omega)).mono ?_
            rintro e' W3 ⟨rfl, HB3⟩
            have hll : (s.extract fr (a + 1)).data.toList.length = a + 1 - fr := by rw [Array.length_toList]; exact hlx
            go_wp2_with fail
            refine (HB3.byte 39 _ rfl (by rw [List.length_append, hll]; omega)).mono ?_
            rintro e' W4 ⟨rfl, HB4⟩
            rw [List.append_assoc] at HB4
            go_wp2_with fail
            go_roundw
            case rel => exact ⟨a + 1, k + 1, _, int_eq (by omega), int_eq (by omega), by omega, by simp only [List.length_append, hll, List.length_cons, List.length_nil]; omega, ha1, HR2.out, HG2, HB4⟩
            case measure => simp [valN]; omega
          · have d1 : decide ((k : Int) < (al.length : Int)) = false := by simp; omega
            have HG2 : Hid (autoL s al 0 = acc ++ (s.extract fr s.size).data.toList) := Lib.hid (by rw [HG.out, List.drop_eq_nil_of_le (by omega), autoL, extract_list, List.take_of_length_le (by simp)])
            have hlx : (s.extract fr s.size).size = s.size - fr := by simp [ByteArray.size_extract]
            clear HG hR
            go_wp2_with fail
            refine (HB.write _ (by rw [hlx]; omega)).mono ?_
            rintro e' W3 ⟨rfl, HB3⟩
            go_wp2_with fail
            refine HB3.str.mono ?_
            rintro e' W4 ⟨rfl, HB4⟩
            have hdef4 : W4.heap[D]? = some (.deferred (some [])) := (HB4.bel.block D hdlt).trans hdef
            have hbD : Below w.heap.size w (W4.putObj D (.deferred none)) := (hbw.trans (HB4.bel.mono (by omega))).trans (KeptY.putObj (n0 := w.heap.size) _ hdef4 rfl hnD).below
            rw [← HG2.out] 
            go_wp2_with fail
            refine ⟨by simp, .inl ⟨_, _, rfl, run_takeDeferred (by exact hdef4), ?_⟩⟩
            exact ⟨_, results_tmp rfl _ _ _, by rw [HR.out]; rfl, hbD⟩
end Go.Proofs.YtcnhklcbibpjpaaGreatDoor
