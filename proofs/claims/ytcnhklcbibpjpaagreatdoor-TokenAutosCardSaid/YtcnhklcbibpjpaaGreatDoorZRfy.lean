/- Lemmas behind the laws of the tokens; no conditions. -/
import Derived.Test.YtcnhklcbibpjpaaGreatDoorZRfx
import Derived.Laws.IdiomStrings
set_option linter.unusedVariables false
set_option linter.unusedSimpArgs false

namespace Go.Proofs.YtcnhklcbibpjpaaGreatDoor
open Go.RowKit P Ext PRfa
section
variable {A : World} {s : ByteArray} {m : Int} {ts : List Tk} {fs : List Fr} {al : List Nat} {gl go ga : Option Addr} {cl co ca nl no na : Nat} {w : World}
theorem at1_is' {T : ByteArray} {i c : Nat} (h : i < T.size) (hb : P.b8 T i = c) : at1 T i c = true := by simp [at1, h, hb]
theorem row_later {W W' : World} {b : Nat} {e : TypeId} {z : Nat} {v : Value} {n : Nat} {xs : List Value} (h : W.ownsRow b e z v n xs) (hb : Below W.heap.size W W') : W'.ownsRow b e z v n xs :=
  ownsRow_sameN h fun k c fz hk _ => (hb.block k (Array.getElem?_eq_some_iff.1 hk).1).trans hk
structure SQ (fb : Bool) (A w : World) (X : Nat) (s : ByteArray) (m i : Int) (ts : List Tk) (fs : List Fr) (al : List Nat) (gl : Option Addr) (cl : Nat) (go : Option Addr) (co : Nat) (ga : Option Addr) (ca : Nat) (acc : List UInt8) (gb : Option Addr) (cb : Nat) (W : World) : Prop where
  sb : SB fb A w X s m i ts fs al gl cl go co ga ca W
  row : W.ownsRow w.heap.size 5 1 (.slice gb acc.length cb) acc.length (Lib.byteCells acc)
theorem SQ.later {fb : Bool} {X : Nat} {i : Int} {w0 W W' : World} {acc : List UInt8} {gb : Option Addr} {cb : Nat} (h : SQ fb A w0 X s m i ts fs al gl cl go co ga ca acc gb cb W) (hb : Below W.heap.size W W') : SQ fb A w0 X s m i ts fs al gl cl go co ga ca acc gb cb W' :=
  ⟨h.sb.later hb, row_later h.row hb⟩
theorem SQ.set2 {fb : Bool} {X : Nat} {i : Int} {w0 W : World} {acc : List UInt8} {gb : Option Addr} {cb : Nat} (h : SQ fb A w0 X s m i ts fs al gl cl go co ga ca acc gb cb W) (hA : A.heap.size ≤ X) (h0 : w0.heap.size ≤ X) (i' : Int) : SQ fb A w0 X s m i' ts fs al gl cl go co ga ca acc gb cb (W.setCell ⟨X, 2, none⟩ (.int .i64 i')) :=
  ⟨h.sb.set2 hA h0 i', ownsRow_sameN h.row fun k c fz hk _ => by
    rw [Below.heap_setCell _ _ _ _ (fun e' => by dsimp only at e'; subst e'; have := h.sb.bx; rw [Bx, hk] at this; cases this)]
    exact hk⟩
theorem SQ.cast {fb : Bool} {X : Nat} {i i' : Int} {w0 W : World} {acc : List UInt8} {gb : Option Addr} {cb : Nat} (h : SQ fb A w0 X s m i ts fs al gl cl go co ga ca acc gb cb W) (e : i = i') : SQ fb A w0 X s m i' ts fs al gl cl go co ga ca acc gb cb W := e ▸ h
theorem SQ.push {fb : Bool} {X : Nat} {i : Int} {w0 W W' : World} {acc t : List UInt8} {gb : Option Addr} {cb : Nat} (h : SQ fb A w0 X s m i ts fs al gl cl go co ga ca acc gb cb W) (hA : A.heap.size ≤ w0.heap.size) {v' : Value} (ht : 0 < t.length) (hgrow : W.grownBy W' (Value.slice gb acc.length cb).ownBlock)
    (hown : W'.ownsRow w0.heap.size 5 1 v' (acc.length + t.length) (Lib.byteCells acc ++ Lib.byteCells t)) :
    ∃ gb' cb', v' = .slice gb' (acc ++ t).length cb' ∧ SQ fb A w0 X s m i ts fs al gl cl go co ga ca (acc ++ t) gb' cb' W' := by
  have hl : (acc ++ t).length = acc.length + t.length := by simp
  have he : Lib.byteCells (acc ++ t) = Lib.byteCells acc ++ Lib.byteCells t := by simp [Lib.byteCells]
  obtain ⟨k, hk⟩ : ∃ k, acc.length + t.length = k + 1 := ⟨acc.length + t.length - 1, by omega⟩
  obtain ⟨g', c', rfl⟩ : ∃ g c, v' = .slice g (acc.length + t.length) c := by
    rw [hk] at hown ⊢
    obtain ⟨g', c', rfl⟩ := ownsRow_succ hown
    exact ⟨_, _, rfl⟩
  refine ⟨g', c', by rw [hl], ⟨⟨⟨?_, ?_, ?_, ?_⟩, ?_, ?_, ?_⟩, by rw [hl, he]; exact hown⟩⟩
  · exact ownsRow_sameN h.sb.ro.tok fun k c fz hk _ => grown_other h.row hgrow hk (by decide)
  · exact ownsRow_sameN h.sb.ro.fr fun k c fz hk _ => grown_other h.row hgrow hk (by decide)
  · exact ownsRow_sameN h.sb.ro.ap fun k c fz hk _ => grown_other h.row hgrow hk (by decide)
  · exact h.sb.ro.bel.grown hgrow h.sb.ro.bel.size (fun k e => by have := (row_own h.row k e).1; omega)
  · exact grown_other h.row hgrow h.sb.bx (by decide)
  · exact grown_other h.row hgrow h.sb.rb (by decide)
  · refine ⟨Nat.le_trans h.sb.kr.size hgrow.size, fun j c T fz hj h1 h2 h3 => ?_⟩
    have hlt := (Array.getElem?_eq_some_iff.1 hj).1
    rw [hgrow.block j (by have := h.sb.kr.size; omega) (fun e' => by have := (row_own h.row j e'.symm).1; omega)]
    exact h.sb.kr.same j c T fz hj h1 h2 h3
structure SR (w : World) (acc : List UInt8) (gb : Option Addr) (cb : Nat) (W : World) : Prop where
  row : W.ownsRow w.heap.size 5 1 (.slice gb acc.length cb) acc.length (Lib.byteCells acc)
theorem SQ.fill {fb : Bool} {X : Nat} {i : Int} {w0 W : World} {acc : List UInt8} {gb : Option Addr} {cb : Nat} (h : SQ fb A w0 X s m i ts fs al gl cl go co ga ca acc gb cb W) (s' : ByteArray) (m' i' : Int) (vl vo : Value) (e a : Int) (va : Value) :
    SR w0 acc gb cb (fill8 (X + 1) s' m' i' vl vo e a va W).drew := by
  have one : ∀ {W : World} {c : Array Value} (_ : W.ownsRow w0.heap.size 5 1 (.slice gb acc.length cb) acc.length (Lib.byteCells acc)) (_ : W.heap[X + 1]? = some (.cells c 49 (0, 0))) (j : Nat) (v : Value), (W.setCell ⟨X + 1, j, none⟩ v).ownsRow w0.heap.size 5 1 (.slice gb acc.length cb) acc.length (Lib.byteCells acc) := fun h hb j v =>
    ownsRow_sameN h fun k c fz hk _ => by
      rw [Below.heap_setCell _ _ _ _ (fun e' => by dsimp only at e'; subst e'; rw [hb] at hk; cases hk)]
      exact hk
  have r0 := h.sb.rb.set0 s'
  have r1 := r0.set1 m'
  have r2 := r1.set2 i'
  have r3 := r2.set3 vl
  have r4 := r3.set4 vo
  have r5 := r4.set5 e
  have r6 := r5.set6 a
  exact ⟨row_later (one (one (one (one (one (one (one (one h.row h.sb.rb 0 _) r0 1 _) r1 2 _) r2 3 _) r3 4 _) r4 5 _) r5 6 _) r6 7 _) (Below.refl _ _).drew⟩
theorem SR.text {w0 W : World} {acc : List UInt8} {gb : Option Addr} {cb : Nat} (h : SR w0 acc gb cb W) :
    (convert 52 9 (.slice gb acc.length cb)).run Tryz.prog W = .ok (.string ⟨acc.toArray⟩) W := by
  rcases h.row.2 with ⟨hv, h0⟩ | ⟨g, cap, cur, hv, hb, hg, h1, h2, h3, h4⟩
  · have : acc = [] := List.length_eq_zero_iff.1 h0
    subst this
    obtain ⟨rfl, -, rfl⟩ : gb = none ∧ ([] : List UInt8).length = 0 ∧ cb = 0 := by simpa using hv
    exact run_convert_bytes_nil W 52 5 Tryz.underlying52 Tryz.underlying5 _ _ 9 Tryz.underlying9
  · cases hv
    refine run_convert_bytes_back W 52 9 5 ⟨g, 0, none⟩ cb acc Tryz.underlying52 Tryz.underlying5 Tryz.underlying9 fun j hj => ?_
    have : (⟨g, 0, none⟩ : Addr).add j = ⟨g, j, none⟩ := by
      simp [Addr.add]
      intro e
      exact e.symm
    rw [this, Lib.cell_of_heap hg, ← Array.getElem?_toList, ← (show (cur.toList.take (acc.length * 1))[j]? = cur.toList[j]? from List.getElem?_take_of_lt (by omega)), h4]
    simp [Lib.byteCells, hj]
theorem SQ.text {fb : Bool} {X : Nat} {i : Int} {w0 W : World} {acc : List UInt8} {gb : Option Addr} {cb : Nat} (h : SQ fb A w0 X s m i ts fs al gl cl go co ga ca acc gb cb W) :
    (convert 52 9 (.slice gb acc.length cb)).run Tryz.prog W = .ok (.string ⟨acc.toArray⟩) W := SR.text ⟨h.row⟩
set_option maxRecDepth 100000 in
set_option maxHeartbeats 1000000 in
theorem rquote_any (i : Nat) (hG : GlH A) (hz : s.size ≤ 100000) (hi : i < s.size) (h : RO A ts fs al gl cl go co ga ca w) :
    Calls Tryz.prog 50 #[lxV s m (i : Int) (.slice gl ts.length cl) (.slice go fs.length co) 0 0 (.slice ga al.length ca)] w fun e w' =>
      ∃ v, e = .returned (.tuple #[v, .string ⟨(quoteE s (i + 1)).1.toArray⟩]) ∧ RP false A s m w ((quoteE s (i + 1)).2 : Nat) ts fs al 0 0 v w' := by
  obtain ⟨HS0, hA⟩ := boxes_sb (s := s) (m := m) false ((i : Int) + 1) h
  have hsz : (boxes s m ((i : Int) + 1) (.slice gl ts.length cl) (.slice go fs.length co) 0 0 (.slice ga al.length ca) w).heap.size = w.heap.size + 1 + 1 := by simp [boxes]
  have hrow := World.ownsRow_made (base := w.heap.size) (e := 5) (size := 1) (boxes s m ((i : Int) + 1) (.slice gl ts.length cl) (.slice go fs.length co) 0 0 (.slice ga al.length ca) w) #[] 0 (by rw [hsz]; omega) (by decide) rfl
  have HS : SQ false A w w.heap.size s m ((i + 1 : Nat) : Int) ts fs al gl cl go co ga ca [] (some ⟨w.heap.size + 1 + 1, 0, none⟩) 0 ((boxes s m ((i : Int) + 1) (.slice gl ts.length cl) (.slice go fs.length co) 0 0 (.slice ga al.length ca) w).alloc (.cells #[] 5)) := by
    rw [hsz] at hrow
    exact ⟨(HS0.later ((Below.refl _ _).alloc (Nat.le_refl _) _)).cast (by omega), hrow⟩
  clear HS0 hrow hsz
  go_enter Tryz.func50, Tryz.ntmps50
  go_wp2_with fail
  refine (?_ : Code.wp _ _ _ _ ((boxes s m ((i : Int) + 1) (.slice gl ts.length cl) (.slice go fs.length co) 0 0 (.slice ga al.length ca) w).alloc (.cells #[] 5)))
  generalize (boxes s m ((i : Int) + 1) (.slice gl ts.length cl) (.slice go fs.length co) 0 0 (.slice ga al.length ca) w).alloc (.cells #[] 5) = W1 at *
  have hne : w.heap.size ≠ w.heap.size + 1 := by omega
  go_loopw [4] (fun v4 wr => ∃ (j : Nat) (acc : List UInt8) (gb : Option Addr) (cb : Nat), v4 = .slice gb acc.length cb ∧ i + 1 ≤ j ∧ j ≤ s.size ∧ acc.length ≤ j ∧ Hid (quoteE s (i + 1) = (acc ++ (quoteE s j).1, (quoteE s j).2)) ∧ SQ false A w w.heap.size s m (j : Int) ts fs al gl cl go co ga ca acc gb cb wr) (fun _ wr => s.size - posOf w.heap.size wr)
  case atStart => exact ⟨i + 1, [], _, 0, rfl, Nat.le_refl _, hi, by simp, Lib.hid (by simp), HS⟩
  case round =>
    obtain ⟨j, acc, gb, cb, rfl, hij, hjs, hac, HW, HS1⟩ := hrel
    clear HS
    obtain ⟨d0, d1, d2, d3, d4, d5, d6, d7⟩ := HS1.sb.bx.cells
    have HE := Lib.hid (fun (W : World) => rends_any (s := s) (m := m) (gl := gl) (nl := ts.length) (cl := cl) (go := go) (no := fs.length) (co := co) (ga := ga) (na := al.length) (ca := ca) (w := W) j 0 0)
    by_cases hlt : j < s.size
    rotate_left
    focus
      have eE : decide (s.size ≤ j) = true := by simp; omega
      have HF : Hid (quoteE s (i + 1) = (acc, j)) := Lib.hid (by rw [HW.out, quoteE, dif_neg hlt]; simp)
      go_wp2_with (go_at_call 32; refine (HE.out _).mono ?_; rintro e' W3 ⟨rfl, hb3⟩; have HS3 := HS1.later hb3; clear d0 d1 d2 d3 d4 d5 d6 d7; obtain ⟨d0, d1, d2, d3, d4, d5, d6, d7⟩ := HS3.sb.bx.cells)
    rotate_right
    have eE : decide (s.size ≤ j) = false := by simp; omega
    have hlt' : (j : Int) < s.size := by omega
    have hb8 := b8_at s j hlt
    have eS : IntKind.i64.wrap ((j : Int) + 1) = ((j + 1 : Nat) : Int) := by rw [IntWalk.i64_in _ (by omega)]; omega
    by_cases h39 : (s[j]'hlt).toNat = 39
    rotate_left
    focus
      have e1 : (((s[j]'hlt).toNat : Int) != 39) = true := by simp; omega
      have HG : Hid (quoteE s (i + 1) = ((acc ++ [s[j]'hlt]) ++ (quoteE s (j + 1)).1, (quoteE s (j + 1)).2)) := Lib.hid (by rw [HW.out, show quoteE s j = (s[j]'hlt :: (quoteE s (j + 1)).1, (quoteE s (j + 1)).2) from by rw [quoteE, dif_pos hlt, if_neg (by rw [hb8]; exact h39)]]; simp)
      clear hb8 h39
      obtain ⟨i0, hii, hz0, hz1, hz2⟩ := info_parts infoU8
      generalize hcc : s[j]'hlt = cc at *
      go_wp2_with (first
        | (go_at_call 32; refine (HE.out _).mono ?_; rintro e' W2 ⟨rfl, hb2⟩; have HS2 := HS1.later hb2; clear d0 d1 d2 d3 d4 d5 d6 d7; obtain ⟨d0, d1, d2, d3, d4, d5, d6, d7⟩ := HS2.sb.bx.cells)
        | (at_builtin; refine wpList_append_own _ rfl _ _ 52 rfl w.heap.size 5 i0 (.int .u8 0) 1 1 Tryz.underlying52 hii hz0 hz1 hz2 rfl (by decide) _ _ _ rfl (row_later HS2.row ((Below.refl _ W2).alloc (Nat.le_refl _) _)) ⟨W2.heap.size, 0, none⟩ 1 1 [.int .u8 (cc.toNat : Int)] rfl rfl ?c1 ?c2 ?c3 ?c4 ?c5 ?_))
      case c1 =>
        intro j u hj
        match j, hj with
        | 0, hj => simp at hj; subst hj; simp [Addr.add]
      case c2 => intro u hu; simp at hu; subst hu; rfl
      case c3 => unfold maxLen; omega
      case c4 => omega
      case c5 => have := HS2.sb.kr.size; simp; omega
      intro v' w1 hown' hgrow _
      obtain ⟨gb2, cb2, rfl, HS4⟩ := SQ.push (HS2.later ((Below.refl _ W2).alloc (Nat.le_refl _) _)) hA (t := [cc]) (by simp) hgrow (by simpa [Lib.byteCells] using hown')
      rw [List.length_append, List.length_singleton] at *
      clear d0 d1 d2 d3 d4 d5 d6 d7 hown' hgrow
      obtain ⟨d0, d1, d2, d3, d4, d5, d6, d7⟩ := HS4.sb.bx.cells
      have df := HS4.sb.bx.free 2
      go_wp2_with fail
      have HM : SQ false A w w.heap.size s m ((j + 1 : Nat) : Int) ts fs al gl cl go co ga ca (acc ++ [cc]) gb2 cb2 (w1.setCell ⟨w.heap.size, 2, none⟩ (.int .i64 ((j : Int) + 1))) := (HS4.set2 hA (Nat.le_refl _) ((j : Int) + 1)).cast (by omega)
      go_roundw
      case rel => exact ⟨j + 1, acc ++ [cc], gb2, cb2, by rw [List.length_append, List.length_singleton], by omega, by omega, by rw [List.length_append, List.length_singleton]; omega, HG, HM⟩
      case measure => rw [HS1.sb.pos, HM.sb.pos]; omega
    rotate_right
    have e1 : (((s[j]'hlt).toNat : Int) != 39) = false := by simp; omega
    have HH := Lib.hid (fun (W : World) => by have h := rhere_any (s := s) (m := m) (gl := gl) (nl := ts.length) (cl := cl) (go := go) (no := fs.length) (co := co) (ga := ga) (na := al.length) (ca := ca) (w := W) (j + 1) 0 0 39 (by omega); simp only [Int.natCast_add, Int.natCast_one] at h; exact h)
    have HQ : Hid (quoteE s j = if P.b8 s (j + 1) = 39 then (39 :: (quoteE s (j + 2)).1, (quoteE s (j + 2)).2) else ([], j + 1)) := Lib.hid (by rw [quoteE, dif_pos hlt, if_pos (by rw [hb8]; exact h39)])
    clear hb8 h39
    rcases h40 : at1 s (j + 1) 39 with _ | _
    focus
      have HF : Hid (quoteE s (i + 1) = (acc, j + 1)) := Lib.hid (by
        rw [HW.out, HQ.out, if_neg]
        · simp
        · intro e
          have : j + 1 < s.size := by
            by_cases h : j + 1 < s.size
            · exact h
            · rw [P.b8, dif_neg h] at e; cases e
          rw [at1_is' this e] at h40; cases h40)
      go_wp2_with (first
        | (go_at_call 32; refine (HE.out _).mono ?_; rintro e' W2 ⟨rfl, hb2⟩; have HS2 := HS1.later hb2; clear d0 d1 d2 d3 d4 d5 d6 d7; obtain ⟨d0, d1, d2, d3, d4, d5, d6, d7⟩ := HS2.sb.bx.cells; have df := HS2.sb.bx.free 2)
        | (go_at_call 41; refine (HH.out _).mono ?_; rw [h40]; rintro e' W3 ⟨rfl, hb3⟩; have HS3 := (HS2.set2 hA (Nat.le_refl _) ((j : Int) + 1)).later hb3; clear df; clear d0 d1 d2 d3 d4 d5 d6 d7; obtain ⟨d0, d1, d2, d3, d4, d5, d6, d7⟩ := HS3.sb.bx.cells; have df := HS3.sb.bx.free 2))
    rotate_left
    focus
      have h41 : P.b8 s (j + 1) = 39 ∧ j + 1 < s.size := by
        have := at1_lt _ _ _ h40
        refine ⟨?_, by omega⟩
        unfold at1 at h40
        simp only [Bool.and_eq_true, beq_iff_eq] at h40
        exact h40.2
      have HG : Hid (quoteE s (i + 1) = ((acc ++ [39]) ++ (quoteE s (j + 2)).1, (quoteE s (j + 2)).2)) := Lib.hid (by rw [HW.out, HQ.out, if_pos h41.1]; simp)
      have hj2 := h41.2
      clear h41
      obtain ⟨i0, hii, hz0, hz1, hz2⟩ := info_parts infoU8
      go_wp2_with (first
        | (go_at_call 32; refine (HE.out _).mono ?_; rintro e' W2 ⟨rfl, hb2⟩; have HS2 := HS1.later hb2; clear d0 d1 d2 d3 d4 d5 d6 d7; obtain ⟨d0, d1, d2, d3, d4, d5, d6, d7⟩ := HS2.sb.bx.cells; have df := HS2.sb.bx.free 2)
        | (go_at_call 41; refine (HH.out _).mono ?_; rw [h40]; rintro e' W3 ⟨rfl, hb3⟩; have HS3 := (HS2.set2 hA (Nat.le_refl _) ((j : Int) + 1)).later hb3; clear df; clear d0 d1 d2 d3 d4 d5 d6 d7; obtain ⟨d0, d1, d2, d3, d4, d5, d6, d7⟩ := HS3.sb.bx.cells; have df := HS3.sb.bx.free 2)
        | (at_builtin; refine wpList_append_own _ rfl _ _ 52 rfl w.heap.size 5 i0 (.int .u8 0) 1 1 Tryz.underlying52 hii hz0 hz1 hz2 rfl (by decide) _ _ _ rfl (row_later HS3.row ((Below.refl _ W3).alloc (Nat.le_refl _) _)) ⟨W3.heap.size, 0, none⟩ 1 1 [.int .u8 39] rfl rfl ?c1 ?c2 ?c3 ?c4 ?c5 ?_))
      case c1 =>
        intro j u hj
        match j, hj with
        | 0, hj => simp at hj; subst hj; simp [Addr.add]
      case c2 => intro u hu; simp at hu; subst hu; rfl
      case c3 => unfold maxLen; omega
      case c4 => omega
      case c5 => have := HS3.sb.kr.size; simp; omega
      intro v' w1 hown' hgrow _
      obtain ⟨gb2, cb2, rfl, HS4⟩ := SQ.push (HS3.later ((Below.refl _ W3).alloc (Nat.le_refl _) _)) hA (t := [39]) (by decide) hgrow (by simpa [Lib.byteCells] using hown')
      rw [List.length_append, List.length_singleton] at *
      clear d0 d1 d2 d3 d4 d5 d6 d7 df hown' hgrow
      obtain ⟨d0, d1, d2, d3, d4, d5, d6, d7⟩ := HS4.sb.bx.cells
      have df := HS4.sb.bx.free 2
      go_wp2_with fail
      have HM : SQ false A w w.heap.size s m ((j + 2 : Nat) : Int) ts fs al gl cl go co ga ca (acc ++ [39]) gb2 cb2 (w1.setCell ⟨w.heap.size, 2, none⟩ (.int .i64 ((j : Int) + 1 + 1))) := (HS4.set2 hA (Nat.le_refl _) ((j : Int) + 1 + 1)).cast (by omega)
      go_roundw
      case rel => exact ⟨j + 2, acc ++ [39], gb2, cb2, by rw [List.length_append, List.length_singleton], by omega, by omega, by rw [List.length_append, List.length_singleton]; omega, HG, HM⟩
      case measure => rw [HS1.sb.pos, HM.sb.pos]; omega
    focus
      rename World => W3
      clear HS1 HW d0 d1 d2 d3 d4 d5 d6 d7
      obtain ⟨d0, d1, d2, d3, d4, d5, d6, d7⟩ := HS3.sb.bx.cells
      obtain ⟨q0, q1, q2, q3, q4, q5, q6, q7⟩ := HS3.sb.rb.cells
      have qf := HS3.sb.rb.free
      obtain ⟨f1, f2, f3⟩ := (HS3.sb.sx hA (Nat.le_refl _)).fin s m (j : Int) (.slice gl ts.length cl) (.slice go fs.length co) 0 0 (.slice ga al.length ca)
      have hbd := (Below.refl (fill8 (w.heap.size + 1) s m (j : Int) (.slice gl ts.length cl) (.slice go fs.length co) 0 0 (.slice ga al.length ca) W3).heap.size (fill8 (w.heap.size + 1) s m (j : Int) (.slice gl ts.length cl) (.slice go fs.length co) 0 0 (.slice ga al.length ca) W3)).drew
      have F1 := Lib.hid (f1.kr (KR.ofBelow (fb := true) hbd))
      have F2 := Lib.hid (f2.later hbd)
      have F3 := Lib.hid (f3.trans (KR.ofBelow hbd))
      have hcv1 := (HS3.later (Below.refl _ W3).drew).text
      have hcv2 := (HS3.fill s m (j : Int) (.slice gl ts.length cl) (.slice go fs.length co) 0 0 (.slice ga al.length ca)).text
      unfold fill8 at hcv2
      clear f1 f2 f3 hbd
      go_region_with (fail)
      all_goals
        go_wp2_with fail
        refine bodyPost_ret (bx_ret2 rfl rfl F1.out) rfl ?_
        refine ⟨_, by rw [HF.out]; rfl, gl, cl, go, co, ga, ca, by rw [HF.out]; try rfl, F2.out, F3.out⟩
    focus
      rename World => W3
      clear HS1 HW d0 d1 d2 d3 d4 d5 d6 d7
      obtain ⟨d0, d1, d2, d3, d4, d5, d6, d7⟩ := HS3.sb.bx.cells
      obtain ⟨q0, q1, q2, q3, q4, q5, q6, q7⟩ := HS3.sb.rb.cells
      have qf := HS3.sb.rb.free
      obtain ⟨f1, f2, f3⟩ := (HS3.sb.sx hA (Nat.le_refl _)).fin s m ((j : Int) + 1) (.slice gl ts.length cl) (.slice go fs.length co) 0 0 (.slice ga al.length ca)
      have hbd := (Below.refl (fill8 (w.heap.size + 1) s m ((j : Int) + 1) (.slice gl ts.length cl) (.slice go fs.length co) 0 0 (.slice ga al.length ca) W3).heap.size (fill8 (w.heap.size + 1) s m ((j : Int) + 1) (.slice gl ts.length cl) (.slice go fs.length co) 0 0 (.slice ga al.length ca) W3)).drew
      have F1 := Lib.hid (f1.kr (KR.ofBelow (fb := true) hbd))
      have F2 := Lib.hid (f2.later hbd)
      have F3 := Lib.hid (f3.trans (KR.ofBelow hbd))
      have hcv1 := (HS3.later (Below.refl _ W3).drew).text
      have hcv2 := (HS3.fill s m ((j : Int) + 1) (.slice gl ts.length cl) (.slice go fs.length co) 0 0 (.slice ga al.length ca)).text
      unfold fill8 at hcv2
      clear f1 f2 f3 hbd
      go_region_with (fail)
      all_goals
        go_wp2_with fail
        refine bodyPost_ret (bx_ret2 rfl rfl F1.out) rfl ?_
        refine ⟨_, by rw [HF.out]; rfl, gl, cl, go, co, ga, ca, by rw [HF.out]; try rfl, F2.out, F3.out⟩
end
end Go.Proofs.YtcnhklcbibpjpaaGreatDoor
