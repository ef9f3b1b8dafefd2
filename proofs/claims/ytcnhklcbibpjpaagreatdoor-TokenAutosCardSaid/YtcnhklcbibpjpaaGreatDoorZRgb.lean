/- Lemmas behind the laws of the tokens; no conditions. -/
import Derived.Test.YtcnhklcbibpjpaaGreatDoorZRga
set_option linter.unusedVariables false
set_option linter.unusedSimpArgs false

namespace Go.Proofs.YtcnhklcbibpjpaaGreatDoor
open Go.RowKit P Ext PRfa
section
variable {A : World} {s : ByteArray} {m : Int} {ts : List Tk} {fs : List Fr} {al : List Nat} {gl go ga : Option Addr} {cl co ca nl no na : Nat} {w : World}
theorem RO.pop {f : Fr} (h : RO A ts (fs ++ [f]) al gl cl go co ga ca w) : RO A ts fs al gl cl go co ga ca w := by
  refine ⟨h.tok, ⟨frCells_len fs, ?_⟩, h.ap, h.bel⟩
  rcases h.fr.2 with ⟨_, h0⟩ | ⟨g, cap, cur, hv, hb, hg, h1, h2, h3, h4⟩
  · simp at h0
  · cases hv
    have hl : (fs ++ [f]).length = fs.length + 1 := by simp
    refine .inr ⟨g, co, cur, rfl, hb, hg, by omega, h2, h3, ?_⟩
    have := congrArg (List.take (fs.length * 5)) h4
    rw [List.take_take, Nat.min_eq_left (by omega), frCells_app] at this
    exact this.trans (List.take_left' (frCells_len fs))
theorem RO.capFr {f : Fr} (h : RO A ts (fs ++ [f]) al gl cl go co ga ca w) : (fs ++ [f]).length ≤ co ∧ ∃ g, go = some ⟨g, 0, none⟩ := by
  rcases h.fr.2 with ⟨_, h0⟩ | ⟨g, cap, cur, hv, hb, hg, h1, h2, h3, h4⟩
  · simp at h0
  · cases hv
    exact ⟨h1, g, rfl⟩
theorem tlNil (b : ByteArray) : b.toList = [] ↔ b.size = 0 := by
  rw [ByteArray.toList_eq, ByteArray.size, ← Array.length_toList]
  exact List.length_eq_zero_iff.symm
def KeyP (A : World) (s : ByteArray) (m : Int) (w : World) (ts : List Tk) (fs : List Fr) (f : Fr) (al : List Nat) (p : Nat) (v : Value) (W : World) : Prop :=
  if at1 s p 125 then RP true A s m w ((p + 1 : Nat) : Int) (ts ++ [(4, ⟨#[]⟩, (p : Int))]) fs al 0 0 v W
  else match keyR s f.2.1 f.2.2.1 p with
    | .er k a => ∃ (i : Int) (ts2 : List Tk) (fs2 : List Fr) (al2 : List Nat), RP true A s m w i ts2 fs2 al2 k a v W
    | .ok j ts1 _ => RQ A s m w (ts ++ ts1) (fs ++ [(f.1, f.2.1, f.2.2.1, true, ((P.blanks s j : Nat) : Int))]) al (mustR s 123 3 f.2.2.1 j) v W
set_option maxRecDepth 100000 in
set_option maxHeartbeats 1000000 in
theorem rkey_any (HP : ParseC) (i : Nat) (hG : GlH A) (hz : s.size ≤ 90000) (hi : i ≤ s.size) (f : Fr) (hl : ts.length ≤ 90000) (hf : fs.length ≤ 90000) (fs' : List Fr) (hfs : Hid (fs' = fs ++ [f])) (h : RO A ts fs' al gl cl go co ga ca w) :
    Calls Tryz.prog 30 #[lxV s m (i : Int) (.slice gl ts.length cl) (.slice go fs'.length co) 0 0 (.slice ga al.length ca)] w fun e w' =>
      ∃ v, e = .returned v ∧ KeyP A s m w ts fs f al (P.blanks s i) v w' := by
  obtain ⟨HS0, hA⟩ := boxes_sb (s := s) (m := m) true i h
  have hsz : (boxes s m (i : Int) (.slice gl ts.length cl) (.slice go fs'.length co) 0 0 (.slice ga al.length ca) w).heap.size = w.heap.size + 1 + 1 := by simp [boxes]
  obtain ⟨g, rfl, hg, hgA, ⟨cur, hcur⟩, c0, c1, c2, c3, c4⟩ := (hfs.out ▸ h : RO A ts (fs ++ [f]) al gl cl go co ga ca w).top
  have hlen : fs'.length = fs.length + 1 := by rw [hfs.out]; simp
  have e1 : IntKind.i64.wrap ((fs'.length : Int) - 1) = (fs.length : Int) := by rw [IntWalk.i64_in _ (by omega)]; omega
  have e2 : (fs.length : Int) < fs'.length := by omega
  have HLEN := Lib.hid hlen
  have b0 : ∀ o1 o2 : Obj, ((w.alloc o1).alloc o2).heap[g]? = w.heap[g]? := fun o1 o2 => by
    rw [Below.heap_alloc _ o2 g (by simp; omega), Below.heap_alloc w o1 g hg]
  have q0 : ∀ o1 o2 : Obj, ((w.alloc o1).alloc o2).cell? ⟨g, fs.length * 5, none⟩ = some (.int .i64 f.1) := fun o1 o2 => (World.cell?_of_block (b0 o1 o2)).trans c0
  have q1 : ∀ o1 o2 : Obj, ((w.alloc o1).alloc o2).cell? ⟨g, fs.length * 5 + 1, none⟩ = some (.bool f.2.1) := fun o1 o2 => (World.cell?_of_block (b0 o1 o2)).trans c1
  have q2 : ∀ o1 o2 : Obj, ((w.alloc o1).alloc o2).cell? ⟨g, fs.length * 5 + 2, none⟩ = some (.int .i64 f.2.2.1) := fun o1 o2 => (World.cell?_of_block (b0 o1 o2)).trans c2
  have q3 : ∀ o1 o2 : Obj, ((w.alloc o1).alloc o2).cell? ⟨g, fs.length * 5 + 3, none⟩ = some (.bool f.2.2.2.1) := fun o1 o2 => (World.cell?_of_block (b0 o1 o2)).trans c3
  have q4 : ∀ o1 o2 : Obj, ((w.alloc o1).alloc o2).cell? ⟨g, fs.length * 5 + 4, none⟩ = some (.int .i64 f.2.2.2.2) := fun o1 o2 => (World.cell?_of_block (b0 o1 o2)).trans c4
  have hFn := World.alloc_heap_new (boxes s m (i : Int) (.slice gl ts.length cl) (.slice (some ⟨g, 0, none⟩) fs'.length co) 0 0 (.slice ga al.length ca) w) (.cells #[.int .i64 f.1, .bool f.2.1, .int .i64 f.2.2.1, .bool f.2.2.2.1, .int .i64 f.2.2.2.2] 65)
  rw [hsz] at hFn
  have hF1 : FX (w.heap.size + 1 + 1) f ((boxes s m (i : Int) (.slice gl ts.length cl) (.slice (some ⟨g, 0, none⟩) fs'.length co) 0 0 (.slice ga al.length ca) w).alloc (.cells #[.int .i64 f.1, .bool f.2.1, .int .i64 f.2.2.1, .bool f.2.2.2.1, .int .i64 f.2.2.2.2] 65)) := hFn
  have HS1 := HS0.later ((Below.refl _ _).alloc (Nat.le_refl _) (.cells #[.int .i64 f.1, .bool f.2.1, .int .i64 f.2.2.1, .bool f.2.2.2.1, .int .i64 f.2.2.2.2] 65))
  clear HS0 hsz hFn hlen
  have bb := blanks_bd s i hi
  have hl1 : ts.length ≤ 100000 := by omega
  go_enter Tryz.func30, Tryz.ntmps30
  go_wp2_with fail
  refine (?_ : Calls _ _ _ ((boxes s m (i : Int) (.slice gl ts.length cl) (.slice (some ⟨g, 0, none⟩) fs'.length co) 0 0 (.slice ga al.length ca) w).alloc (.cells #[.int .i64 f.1, .bool f.2.1, .int .i64 f.2.2.1, .bool f.2.2.2.1, .int .i64 f.2.2.2.2] 65)) _)
  generalize ((boxes s m (i : Int) (.slice gl ts.length cl) (.slice (some ⟨g, 0, none⟩) fs'.length co) 0 0 (.slice ga al.length ca) w).alloc (.cells #[.int .i64 f.1, .bool f.2.1, .int .i64 f.2.2.1, .bool f.2.2.2.1, .int .i64 f.2.2.2.2] 65)) = W1 at *
  clear q0 q1 q2 q3 q4 b0 c0 c1 c2 c3 c4
  have df : True := trivial
  have k0 : True := trivial
  have k1 : True := trivial
  have k2 : True := trivial
  have k3 : True := trivial
  have k4 : True := trivial
  have d0 : True := trivial
  have d1 : True := trivial
  have d2 : True := trivial
  have d3 : True := trivial
  have d4 : True := trivial
  have d5 : True := trivial
  have d6 : True := trivial
  have d7 : True := trivial
  refine (rblanks_any i hG (by omega) hi HS1.ro).mono ?_
  rintro e' W2 ⟨v, rfl, gl2, cl2, go2, co2, ga2, ca2, rfl, hro2, hk2⟩
  go_wp2_with (with_reducible refine gate_lx (p := 1) rfl ?_; refine wp_fill (HS1.bx.kr hk2) rfl rfl rfl rfl rfl ?_; intro W3 f3 hx3; have HS3 := HS1.next hA (Nat.le_refl _) hro2 hk2.mono f3 hx3; clear d0 d1 d2 d3 d4 d5 d6 d7 df; obtain ⟨d0, d1, d2, d3, d4, d5, d6, d7⟩ := HS3.bx.cells; have df := HS3.bx.free; have hF3 := (hF1.kr hk2).fl f3 (by omega); clear k0 k1 k2 k3 k4; obtain ⟨k0, k1, k2, k3, k4⟩ := hF3.cells)
  have HH := Lib.hid (fun (c : Nat) (W : World) => rhere_any (s := s) (m := m) (gl := gl2) (nl := ts.length) (cl := cl2) (go := go2) (no := fs'.length) (co := co2) (ga := ga2) (na := al.length) (ca := ca2) (w := W) (P.blanks s i) 0 0 c (by omega))
  cases h125 : at1 s (P.blanks s i) 125 with
  | true =>
    have HK : Hid (∀ v W, KeyP A s m w ts fs f al (P.blanks s i) v W = RP true A s m w ((P.blanks s i + 1 : Nat) : Int) (ts ++ [(4, ⟨#[]⟩, ((P.blanks s i : Nat) : Int))]) fs al 0 0 v W) := Lib.hid (fun v W => by rw [KeyP, h125, if_pos rfl])
    have hlt := at1_lt _ _ _ h125
    go_wp2_with (first
        | (with_reducible refine gate_lx (p := 1) rfl ?_; refine wp_fill (HS1.bx.kr hk2) rfl rfl rfl rfl rfl ?_; intro W3 f3 hx3; have HS3 := HS1.next hA (Nat.le_refl _) hro2 hk2.mono f3 hx3; clear d0 d1 d2 d3 d4 d5 d6 d7 df; obtain ⟨d0, d1, d2, d3, d4, d5, d6, d7⟩ := HS3.bx.cells; have df := HS3.bx.free; have hF3 := (hF1.kr hk2).fl f3 (by omega); clear k0 k1 k2 k3 k4; obtain ⟨k0, k1, k2, k3, k4⟩ := hF3.cells)
        | (go_at_call_of 41 (Value.int IntKind.u8 125); refine (HH.out 125 _).mono ?_; rw [h125]; rintro e' W4 ⟨rfl, hb4⟩; have HS4 := HS3.later hb4; clear d0 d1 d2 d3 d4 d5 d6 d7 df; obtain ⟨d0, d1, d2, d3, d4, d5, d6, d7⟩ := HS4.bx.cells; have df := HS4.bx.free; have hF4 := hF3.later hb4; clear k0 k1 k2 k3 k4; obtain ⟨k0, k1, k2, k3, k4⟩ := hF4.cells))
    have hcl := rcloses_any (s := s) (m := m) ((P.blanks s i : Nat) : Int) HS4.ro hl1 (by omega) (by omega)
    generalize hts : ts ++ [(4, (⟨#[]⟩ : ByteArray), ((P.blanks s i : Nat) : Int))] = ts2 at hcl
    have HTS := Lib.hid hts
    clear hts
    refine hcl.mono ?_
    rintro e' W5 ⟨v, rfl, gl5, cl5, go5, co5, ga5, ca5, rfl, hro5, hk5⟩
    obtain ⟨hcap, g5, rfl⟩ := RO.capFr (f := f) (fs := fs) (by have := hro5; rw [hfs.out] at this; exact this)
    rw [← hfs.out] at hcap
    have hcap2 : fs.length ≤ co5 := by have := HLEN.out; omega
    go_wp2_with (first
        | (with_reducible refine gate_lx (p := 1) rfl ?_; refine wp_fill (HS4.bx.kr hk5) rfl rfl rfl rfl rfl ?_; intro W6 f6 hx6; have HS6 := HS4.next hA (Nat.le_refl _) hro5 hk5.mono f6 hx6; clear d0 d1 d2 d3 d4 d5 d6 d7 df; obtain ⟨d0, d1, d2, d3, d4, d5, d6, d7⟩ := HS6.bx.cells; have df := HS6.bx.free)
        | (with_reducible refine gate_lx (p := 2) rfl ?_; refine wp_fill (HS6.rb.other (by omega) 4 (.slice (some ⟨g5, 0, none⟩) fs.length co5)) rfl rfl rfl rfl rfl ?_; intro W7 f7 hr7))
    refine bodyPost_ret (bx_ret rfl rfl hr7) rfl ?_
    refine ⟨_, rfl, ?_⟩
    rw [HK.out, HTS.out]
    have hpop : RO A ts2 fs al gl5 cl5 (some ⟨g5, 0, none⟩) co5 ga5 ca5 W6 := RO.pop (f := f) (by have := HS6.ro; rw [hfs.out] at this; exact this)
    exact ⟨gl5, cl5, _, co5, ga5, ca5, by simp, (hpop.bx HS6.bx hA 4 _).fl (HS6.rb.other (by omega) 4 _) f7 (by omega), (HS6.kr.set (Nat.le_refl _) 4 _).fl f7 (by omega)⟩
  | false =>
    have wb := wordEnd_bd s (P.blanks s i) bb.2
    have hHK : ∀ v W, KeyP A s m w ts fs f al (P.blanks s i) v W = (match keyR s f.2.1 f.2.2.1 (P.blanks s i) with
        | .er k a => ∃ (i : Int) (ts2 : List Tk) (fs2 : List Fr) (al2 : List Nat), RP true A s m w i ts2 fs2 al2 k a v W
        | .ok j ts1 _ => RQ A s m w (ts ++ ts1) (fs ++ [(f.1, f.2.1, f.2.2.1, true, ((P.blanks s j : Nat) : Int))]) al (mustR s 123 3 f.2.2.1 j) v W) := fun v W => by rw [KeyP, h125, if_neg (by decide)]
    have HK := Lib.hid hHK
    clear hHK
    cases hkey : f.2.1 with
    | false =>
      have HW : Hid (keyR s f.2.1 f.2.2.1 (P.blanks s i) = if (wordAt s (P.blanks s i)).size = 0 ∨ 64 < (wordAt s (P.blanks s i)).size then failR s (P.blanks s i) f.2.2.1 else .ok (P.wordEnd s (P.blanks s i)) [(10, wordAt s (P.blanks s i), ((P.blanks s i : Nat) : Int))] []) := Lib.hid (by rw [keyR, hkey]; simp only [Bool.false_and, if_neg Bool.false_ne_true])
      go_wp2_with (first
        | (with_reducible refine gate_lx (p := 1) rfl ?_; refine wp_fill (HS1.bx.kr hk2) rfl rfl rfl rfl rfl ?_; intro W3 f3 hx3; have HS3 := HS1.next hA (Nat.le_refl _) hro2 hk2.mono f3 hx3; clear d0 d1 d2 d3 d4 d5 d6 d7 df; obtain ⟨d0, d1, d2, d3, d4, d5, d6, d7⟩ := HS3.bx.cells; have df := HS3.bx.free; have hF3 := (hF1.kr hk2).fl f3 (by omega); clear k0 k1 k2 k3 k4; obtain ⟨k0, k1, k2, k3, k4⟩ := hF3.cells; rw [hkey] at k1)
        | (go_at_call_of 41 (Value.int IntKind.u8 125); refine (HH.out 125 _).mono ?_; rw [h125]; rintro e' W4 ⟨rfl, hb4⟩; have HS4 := HS3.later hb4; clear d0 d1 d2 d3 d4 d5 d6 d7 df; obtain ⟨d0, d1, d2, d3, d4, d5, d6, d7⟩ := HS4.bx.cells; have df := HS4.bx.free; have hF4 := hF3.later hb4; clear k0 k1 k2 k3 k4; obtain ⟨k0, k1, k2, k3, k4⟩ := hF4.cells; rw [hkey] at k1))
      refine (rword_any (P.blanks s i) hG (by omega) bb.2 HS4.ro).mono ?_
      rintro e' W5 ⟨v, rfl, gl5, cl5, go5, co5, ga5, ca5, rfl, hro5, hk5⟩
      by_cases hb0 : (wordAt s (P.blanks s i)).toList = []
      · have hbadR : Hid (keyR s f.2.1 f.2.2.1 (P.blanks s i) = failR s (P.blanks s i) f.2.2.1) := Lib.hid (by rw [HW.out, if_pos (.inl ((tlNil _).1 hb0))])
        go_wp2_with (with_reducible refine gate_lx (p := 1) rfl ?_; refine wp_fill (HS4.bx.kr hk5) rfl rfl rfl rfl rfl ?_; intro W6 f6 hx6; have HS6 := HS4.next hA (Nat.le_refl _) hro5 hk5.mono f6 hx6; clear d0 d1 d2 d3 d4 d5 d6 d7 df; obtain ⟨d0, d1, d2, d3, d4, d5, d6, d7⟩ := HS6.bx.cells; have df := HS6.bx.free; have hF6 := (hF4.kr hk5).fl f6 (by omega); clear k0 k1 k2 k3 k4; obtain ⟨k0, k1, k2, k3, k4⟩ := hF6.cells; rw [hkey] at k1)
        refine (rlacks_any (P.wordEnd s (P.blanks s i)) f.2.2.1 (P.blanks s i) HS6.ro).mono ?_
        rintro e' W30 ⟨v, rfl, kk, aa, hfl, gl30, cl30, go30, co30, ga30, ca30, rfl, hro30, hk30⟩
        have HFL := Lib.hid hfl
        clear hfl
        go_wp2_with (with_reducible refine gate_lx (p := 2) rfl ?_; refine wp_fill (HS6.rb.kr hk30) rfl rfl rfl rfl rfl ?_; intro W31 f31 hr31)
        refine bodyPost_ret (bx_ret rfl rfl hr31) rfl ?_
        refine ⟨_, rfl, ?_⟩
        rw [HK.out, hbadR.out]
        rw [HFL.out]
        exact ⟨_, _, _, _, gl30, cl30, go30, co30, ga30, ca30, rfl, hro30.fl (HS6.rb.kr hk30) f31 (by omega), (HS6.kr.trans hk30.mono).fl f31 (by omega)⟩
      have hbe : (wordAt s (P.blanks s i)).toList.isEmpty = false := by simpa using hb0
      by_cases hb1 : 64 < ((wordAt s (P.blanks s i)).size : Int)
      · have hbadR : Hid (keyR s f.2.1 f.2.2.1 (P.blanks s i) = failR s (P.blanks s i) f.2.2.1) := Lib.hid (by rw [HW.out, if_pos (.inr (by omega))])
        go_wp2_with (with_reducible refine gate_lx (p := 1) rfl ?_; refine wp_fill (HS4.bx.kr hk5) rfl rfl rfl rfl rfl ?_; intro W6 f6 hx6; have HS6 := HS4.next hA (Nat.le_refl _) hro5 hk5.mono f6 hx6; clear d0 d1 d2 d3 d4 d5 d6 d7 df; obtain ⟨d0, d1, d2, d3, d4, d5, d6, d7⟩ := HS6.bx.cells; have df := HS6.bx.free; have hF6 := (hF4.kr hk5).fl f6 (by omega); clear k0 k1 k2 k3 k4; obtain ⟨k0, k1, k2, k3, k4⟩ := hF6.cells; rw [hkey] at k1)
        refine (rlacks_any (P.wordEnd s (P.blanks s i)) f.2.2.1 (P.blanks s i) HS6.ro).mono ?_
        rintro e' W30 ⟨v, rfl, kk, aa, hfl, gl30, cl30, go30, co30, ga30, ca30, rfl, hro30, hk30⟩
        have HFL := Lib.hid hfl
        clear hfl
        go_wp2_with (with_reducible refine gate_lx (p := 2) rfl ?_; refine wp_fill (HS6.rb.kr hk30) rfl rfl rfl rfl rfl ?_; intro W31 f31 hr31)
        refine bodyPost_ret (bx_ret rfl rfl hr31) rfl ?_
        refine ⟨_, rfl, ?_⟩
        rw [HK.out, hbadR.out]
        rw [HFL.out]
        exact ⟨_, _, _, _, gl30, cl30, go30, co30, ga30, ca30, rfl, hro30.fl (HS6.rb.kr hk30) f31 (by omega), (HS6.kr.trans hk30.mono).fl f31 (by omega)⟩
      have hokR : Hid (keyR s f.2.1 f.2.2.1 (P.blanks s i) = .ok (P.wordEnd s (P.blanks s i)) [(10, wordAt s (P.blanks s i), ((P.blanks s i : Nat) : Int))] []) := Lib.hid (by rw [HW.out, if_neg (by rw [← tlNil]; rintro (h | h); exact hb0 h; omega)])
      have hb2 : ((wordAt s (P.blanks s i)).size : Int) ≤ 64 := by omega
      have ub := blanks_bd s (P.wordEnd s (P.blanks s i)) wb.2
      go_wp2_with (with_reducible refine gate_lx (p := 1) rfl ?_; refine wp_fill (HS4.bx.kr hk5) rfl rfl rfl rfl rfl ?_; intro W6 f6 hx6; have HS6 := HS4.next hA (Nat.le_refl _) hro5 hk5.mono f6 hx6; clear d0 d1 d2 d3 d4 d5 d6 d7 df; obtain ⟨d0, d1, d2, d3, d4, d5, d6, d7⟩ := HS6.bx.cells; have df := HS6.bx.free; have hF6 := (hF4.kr hk5).fl f6 (by omega); clear k0 k1 k2 k3 k4; obtain ⟨k0, k1, k2, k3, k4⟩ := hF6.cells; rw [hkey] at k1)
      have hul := ub.2
      have hput := rput_any (s := s) (m := m) (P.wordEnd s (P.blanks s i) : Nat) 10 (wordAt s (P.blanks s i)) (P.blanks s i : Nat) HS6.ro hl1
      have hts2 : (ts ++ [(10, wordAt s (P.blanks s i), ((P.blanks s i : Nat) : Int))]).length ≤ 100000 := by simp; omega
      generalize hts : ts ++ [(10, wordAt s (P.blanks s i), ((P.blanks s i : Nat) : Int))] = ts2 at hput hts2
      have HTS := Lib.hid hts
      clear hts
      refine hput.mono ?_
      rintro e' W20 ⟨v, rfl, gl20, cl20, go20, co20, ga20, ca20, rfl, hro20, hk20⟩
      go_wp2_with fail
      refine (rblanks_any (P.wordEnd s (P.blanks s i)) hG (by omega) (by omega) hro20).mono ?_
      rintro e' W21 ⟨v, rfl, gl21, cl21, go21, co21, ga21, ca21, rfl, hro21, hk21⟩
      have hk22 := hk20.trans hk21
      clear hk20 hk21
      have HH2 := Lib.hid (fun (c : Nat) (W : World) => rhere_any (s := s) (m := m) (gl := gl21) (nl := ts2.length) (cl := cl21) (go := go21) (no := fs'.length) (co := co21) (ga := ga21) (na := al.length) (ca := ca21) (w := W) (P.blanks s (P.wordEnd s (P.blanks s i))) 0 0 c (by omega))
      cases h123 : at1 s (P.blanks s (P.wordEnd s (P.blanks s i))) 123 with
      | false =>
        have HM : Hid (mustR s 123 3 f.2.2.1 (P.wordEnd s (P.blanks s i)) = failR s (P.blanks s (P.wordEnd s (P.blanks s i))) f.2.2.1) := Lib.hid (by rw [mustR, if_neg (by rw [h123]; decide)])
        go_wp2_with (first
              | (with_reducible refine gate_lx (p := 1) rfl ?_; refine wp_fill (HS6.bx.kr hk22) rfl rfl rfl rfl rfl ?_; intro W22 f22 hx22; have HS22 := HS6.next hA (Nat.le_refl _) hro21 hk22.mono f22 hx22; clear d0 d1 d2 d3 d4 d5 d6 d7 df; obtain ⟨d0, d1, d2, d3, d4, d5, d6, d7⟩ := HS22.bx.cells; have df := HS22.bx.free; have hF22 := (hF6.kr hk22).fl f22 (by omega); clear k0 k1 k2 k3 k4; obtain ⟨k0, k1, k2, k3, k4⟩ := hF22.cells; rw [hkey] at k1)
              | (go_at_call_of 41 (Value.int IntKind.u8 123); refine (HH2.out 123 _).mono ?_; rw [h123]; rintro e' W23 ⟨rfl, hb23⟩; have HS23 := HS22.later hb23; clear d0 d1 d2 d3 d4 d5 d6 d7 df; obtain ⟨d0, d1, d2, d3, d4, d5, d6, d7⟩ := HS23.bx.cells; have df := HS23.bx.free; have hF23 := hF22.later hb23; clear k0 k1 k2 k3 k4; obtain ⟨k0, k1, k2, k3, k4⟩ := hF23.cells; rw [hkey] at k1))
        refine (rlacks_any (P.blanks s (P.wordEnd s (P.blanks s i))) f.2.2.1 (P.blanks s (P.wordEnd s (P.blanks s i))) HS23.ro).mono ?_
        rintro e' W30 ⟨v, rfl, kk, aa, hfl, gl30, cl30, go30, co30, ga30, ca30, rfl, hro30, hk30⟩
        have HFL := Lib.hid hfl
        clear hfl
        go_wp2_with (with_reducible refine gate_lx (p := 2) rfl ?_; refine wp_fill (HS23.rb.kr hk30) rfl rfl rfl rfl rfl ?_; intro W31 f31 hr31)
        refine bodyPost_ret (bx_ret rfl rfl hr31) rfl ?_
        refine ⟨_, rfl, ?_⟩
        rw [HK.out, hokR.out]
        show RQ A s m w (ts ++ [_]) _ al (mustR s 123 3 f.2.2.1 (P.wordEnd s (P.blanks s i))) _ _
        rw [HM.out, HFL.out]
        exact ⟨_, _, _, _, gl30, cl30, go30, co30, ga30, ca30, rfl, hro30.fl (HS23.rb.kr hk30) f31 (by omega), (HS23.kr.trans hk30.mono).fl f31 (by omega)⟩
      | true =>
        have HM : Hid (mustR s 123 3 f.2.2.1 (P.wordEnd s (P.blanks s i)) = .ok (P.blanks s (P.wordEnd s (P.blanks s i)) + 1) [(3, (⟨#[]⟩ : ByteArray), ((P.blanks s (P.wordEnd s (P.blanks s i)) : Nat) : Int))] []) := Lib.hid (by rw [mustR, if_pos h123])
        have hlu := at1_lt _ _ _ h123
        go_wp2_with (first
              | (with_reducible refine gate_lx (p := 1) rfl ?_; refine wp_fill (HS6.bx.kr hk22) rfl rfl rfl rfl rfl ?_; intro W22 f22 hx22; have HS22 := HS6.next hA (Nat.le_refl _) hro21 hk22.mono f22 hx22; clear d0 d1 d2 d3 d4 d5 d6 d7 df; obtain ⟨d0, d1, d2, d3, d4, d5, d6, d7⟩ := HS22.bx.cells; have df := HS22.bx.free; have hF22 := (hF6.kr hk22).fl f22 (by omega); clear k0 k1 k2 k3 k4; obtain ⟨k0, k1, k2, k3, k4⟩ := hF22.cells; rw [hkey] at k1)
              | (go_at_call_of 41 (Value.int IntKind.u8 123); refine (HH2.out 123 _).mono ?_; rw [h123]; rintro e' W23 ⟨rfl, hb23⟩; have HS23 := HS22.later hb23; clear d0 d1 d2 d3 d4 d5 d6 d7 df; obtain ⟨d0, d1, d2, d3, d4, d5, d6, d7⟩ := HS23.bx.cells; have df := HS23.bx.free; have hF23 := hF22.later hb23; clear k0 k1 k2 k3 k4; obtain ⟨k0, k1, k2, k3, k4⟩ := hF23.cells; rw [hkey] at k1))
        have hput := rput_any (s := s) (m := m) (P.blanks s (P.wordEnd s (P.blanks s i)) : Nat) 3 (⟨#[]⟩ : ByteArray) (P.blanks s (P.wordEnd s (P.blanks s i)) : Nat) HS23.ro hts2
        generalize hts : ts2 ++ [(3, (⟨#[]⟩ : ByteArray), ((P.blanks s (P.wordEnd s (P.blanks s i)) : Nat) : Int))] = ts3 at hput
        have HTS3 := Lib.hid hts
        clear hts
        refine hput.mono ?_
        rintro e' W24 ⟨v, rfl, gl24, cl24, go24, co24, ga24, ca24, rfl, hro24, hk24⟩
        have eS2 : IntKind.i64.wrap (((P.blanks s (P.wordEnd s (P.blanks s i)) : Nat) : Int) + 1) = ((P.blanks s (P.wordEnd s (P.blanks s i)) + 1 : Nat) : Int) := by rw [IntWalk.i64_in _ (by omega)]; omega
        have eS3 : IntKind.i64.wrap (((P.blanks s (P.wordEnd s (P.blanks s i)) : Nat) : Int) + 1 - 1) = ((P.blanks s (P.wordEnd s (P.blanks s i)) : Nat) : Int) := by rw [IntWalk.i64_in _ (by omega)]; omega
        clear df
        have df : True := trivial
        go_wp2_with (with_reducible refine gate_lx (p := 1) rfl ?_; refine wp_fill (HS23.bx.kr hk24) rfl rfl rfl rfl rfl ?_; intro W25 f25 hx25; have HS25 := HS23.next hA (Nat.le_refl _) hro24 hk24.mono f25 hx25; clear d0 d1 d2 d3 d4 d5 d6 d7 df; obtain ⟨d0, d1, d2, d3, d4, d5, d6, d7⟩ := HS25.bx.cells; have df := HS25.bx.free)
        have HS26 : SB true A w w.heap.size s m ((P.blanks s (P.wordEnd s (P.blanks s i)) + 1 : Nat) : Int) ts3 fs' al gl24 cl24 go24 co24 ga24 ca24 (W25.setCell ⟨w.heap.size, 2, none⟩ (.int .i64 (((P.blanks s (P.wordEnd s (P.blanks s i)) : Nat) : Int) + 1))) := (HS25.set2 hA (Nat.le_refl _) (((P.blanks s (P.wordEnd s (P.blanks s i)) : Nat) : Int) + 1)).cast (by omega)
        generalize W25.setCell ⟨w.heap.size, 2, none⟩ (.int .i64 (((P.blanks s (P.wordEnd s (P.blanks s i)) : Nat) : Int) + 1)) = W26 at *
        have hin := rinside_any (fs := fs) (s := s) (m := m) (P.blanks s (P.wordEnd s (P.blanks s i)) + 1) ((P.blanks s (P.wordEnd s (P.blanks s i)) : Nat) : Int) (f := f) (by omega) (by have := HS26.ro; rw [hfs.out] at this; exact this)
        rw [← HLEN.out] at hin
        refine hin.mono ?_
        rintro e' W27 ⟨v, rfl, gl27, cl27, go27, co27, ga27, ca27, rfl, hro27, hk27⟩
        go_wp2_with (with_reducible refine gate_lx (p := 2) rfl ?_; refine wp_fill (HS26.rb.kr hk27) rfl rfl rfl rfl rfl ?_; intro W28 f28 hr28)
        refine bodyPost_ret (bx_ret rfl rfl hr28) rfl ?_
        refine ⟨_, rfl, ?_⟩
        rw [HK.out, hokR.out]
        show RQ A s m w (ts ++ [_]) _ al (mustR s 123 3 f.2.2.1 (P.wordEnd s (P.blanks s i))) _ _
        rw [HM.out]
        show RP true A s m w _ ((ts ++ [_]) ++ [_]) _ (al ++ []) 0 0 _ _
        rw [HTS.out, HTS3.out, List.append_nil]
        exact ⟨gl27, cl27, go27, co27, ga27, ca27, by simp, by simpa using hro27.fl (HS26.rb.kr hk27) f28 (by omega), (HS26.kr.trans hk27).fl f28 (by omega)⟩
    | true =>
      cases h61 : at1 s (P.blanks s i) 61 with
      | false =>
        have HW : Hid (keyR s f.2.1 f.2.2.1 (P.blanks s i) = if (wordAt s (P.blanks s i)).size = 0 ∨ 64 < (wordAt s (P.blanks s i)).size then failR s (P.blanks s i) f.2.2.1 else .ok (P.wordEnd s (P.blanks s i)) [(10, wordAt s (P.blanks s i), ((P.blanks s i : Nat) : Int))] []) := Lib.hid (by rw [keyR, hkey, h61]; simp only [Bool.and_false, if_neg Bool.false_ne_true])
        go_wp2_with (first
        | (with_reducible refine gate_lx (p := 1) rfl ?_; refine wp_fill (HS1.bx.kr hk2) rfl rfl rfl rfl rfl ?_; intro W3 f3 hx3; have HS3 := HS1.next hA (Nat.le_refl _) hro2 hk2.mono f3 hx3; clear d0 d1 d2 d3 d4 d5 d6 d7 df; obtain ⟨d0, d1, d2, d3, d4, d5, d6, d7⟩ := HS3.bx.cells; have df := HS3.bx.free; have hF3 := (hF1.kr hk2).fl f3 (by omega); clear k0 k1 k2 k3 k4; obtain ⟨k0, k1, k2, k3, k4⟩ := hF3.cells; rw [hkey] at k1)
        | (go_at_call_of 41 (Value.int IntKind.u8 125); refine (HH.out 125 _).mono ?_; rw [h125]; rintro e' W4 ⟨rfl, hb4⟩; have HS4 := HS3.later hb4; clear d0 d1 d2 d3 d4 d5 d6 d7 df; obtain ⟨d0, d1, d2, d3, d4, d5, d6, d7⟩ := HS4.bx.cells; have df := HS4.bx.free; have hF4 := hF3.later hb4; clear k0 k1 k2 k3 k4; obtain ⟨k0, k1, k2, k3, k4⟩ := hF4.cells; rw [hkey] at k1)
        | (go_at_call_of 41 (Value.int IntKind.u8 61); refine (HH.out 61 _).mono ?_; rw [h61]; rintro e' W5 ⟨rfl, hb5⟩; have HS5 := HS4.later hb5; clear d0 d1 d2 d3 d4 d5 d6 d7 df; obtain ⟨d0, d1, d2, d3, d4, d5, d6, d7⟩ := HS5.bx.cells; have df := HS5.bx.free; have hF5 := hF4.later hb5; clear k0 k1 k2 k3 k4; obtain ⟨k0, k1, k2, k3, k4⟩ := hF5.cells; rw [hkey] at k1))
        refine (rword_any (P.blanks s i) hG (by omega) bb.2 HS5.ro).mono ?_
        rintro e' W6 ⟨v, rfl, gl6, cl6, go6, co6, ga6, ca6, rfl, hro6, hk6⟩
        by_cases hb0 : (wordAt s (P.blanks s i)).toList = []
        · have hbadR : Hid (keyR s f.2.1 f.2.2.1 (P.blanks s i) = failR s (P.blanks s i) f.2.2.1) := Lib.hid (by rw [HW.out, if_pos (.inl ((tlNil _).1 hb0))])
          go_wp2_with (with_reducible refine gate_lx (p := 1) rfl ?_; refine wp_fill (HS5.bx.kr hk6) rfl rfl rfl rfl rfl ?_; intro W7 f7 hx7; have HS7 := HS5.next hA (Nat.le_refl _) hro6 hk6.mono f7 hx7; clear d0 d1 d2 d3 d4 d5 d6 d7 df; obtain ⟨d0, d1, d2, d3, d4, d5, d6, d7⟩ := HS7.bx.cells; have df := HS7.bx.free; have hF7 := (hF5.kr hk6).fl f7 (by omega); clear k0 k1 k2 k3 k4; obtain ⟨k0, k1, k2, k3, k4⟩ := hF7.cells; rw [hkey] at k1)
          refine (rlacks_any (P.wordEnd s (P.blanks s i)) f.2.2.1 (P.blanks s i) HS7.ro).mono ?_
          rintro e' W30 ⟨v, rfl, kk, aa, hfl, gl30, cl30, go30, co30, ga30, ca30, rfl, hro30, hk30⟩
          have HFL := Lib.hid hfl
          clear hfl
          go_wp2_with (with_reducible refine gate_lx (p := 2) rfl ?_; refine wp_fill (HS7.rb.kr hk30) rfl rfl rfl rfl rfl ?_; intro W31 f31 hr31)
          refine bodyPost_ret (bx_ret rfl rfl hr31) rfl ?_
          refine ⟨_, rfl, ?_⟩
          rw [HK.out, hbadR.out]
          rw [HFL.out]
          exact ⟨_, _, _, _, gl30, cl30, go30, co30, ga30, ca30, rfl, hro30.fl (HS7.rb.kr hk30) f31 (by omega), (HS7.kr.trans hk30.mono).fl f31 (by omega)⟩
        have hbe : (wordAt s (P.blanks s i)).toList.isEmpty = false := by simpa using hb0
        by_cases hb1 : 64 < ((wordAt s (P.blanks s i)).size : Int)
        · have hbadR : Hid (keyR s f.2.1 f.2.2.1 (P.blanks s i) = failR s (P.blanks s i) f.2.2.1) := Lib.hid (by rw [HW.out, if_pos (.inr (by omega))])
          go_wp2_with (with_reducible refine gate_lx (p := 1) rfl ?_; refine wp_fill (HS5.bx.kr hk6) rfl rfl rfl rfl rfl ?_; intro W7 f7 hx7; have HS7 := HS5.next hA (Nat.le_refl _) hro6 hk6.mono f7 hx7; clear d0 d1 d2 d3 d4 d5 d6 d7 df; obtain ⟨d0, d1, d2, d3, d4, d5, d6, d7⟩ := HS7.bx.cells; have df := HS7.bx.free; have hF7 := (hF5.kr hk6).fl f7 (by omega); clear k0 k1 k2 k3 k4; obtain ⟨k0, k1, k2, k3, k4⟩ := hF7.cells; rw [hkey] at k1)
          refine (rlacks_any (P.wordEnd s (P.blanks s i)) f.2.2.1 (P.blanks s i) HS7.ro).mono ?_
          rintro e' W30 ⟨v, rfl, kk, aa, hfl, gl30, cl30, go30, co30, ga30, ca30, rfl, hro30, hk30⟩
          have HFL := Lib.hid hfl
          clear hfl
          go_wp2_with (with_reducible refine gate_lx (p := 2) rfl ?_; refine wp_fill (HS7.rb.kr hk30) rfl rfl rfl rfl rfl ?_; intro W31 f31 hr31)
          refine bodyPost_ret (bx_ret rfl rfl hr31) rfl ?_
          refine ⟨_, rfl, ?_⟩
          rw [HK.out, hbadR.out]
          rw [HFL.out]
          exact ⟨_, _, _, _, gl30, cl30, go30, co30, ga30, ca30, rfl, hro30.fl (HS7.rb.kr hk30) f31 (by omega), (HS7.kr.trans hk30.mono).fl f31 (by omega)⟩
        have hokR : Hid (keyR s f.2.1 f.2.2.1 (P.blanks s i) = .ok (P.wordEnd s (P.blanks s i)) [(10, wordAt s (P.blanks s i), ((P.blanks s i : Nat) : Int))] []) := Lib.hid (by rw [HW.out, if_neg (by rw [← tlNil]; rintro (h | h); exact hb0 h; omega)])
        have hb2 : ((wordAt s (P.blanks s i)).size : Int) ≤ 64 := by omega
        have ub := blanks_bd s (P.wordEnd s (P.blanks s i)) wb.2
        go_wp2_with (with_reducible refine gate_lx (p := 1) rfl ?_; refine wp_fill (HS5.bx.kr hk6) rfl rfl rfl rfl rfl ?_; intro W7 f7 hx7; have HS7 := HS5.next hA (Nat.le_refl _) hro6 hk6.mono f7 hx7; clear d0 d1 d2 d3 d4 d5 d6 d7 df; obtain ⟨d0, d1, d2, d3, d4, d5, d6, d7⟩ := HS7.bx.cells; have df := HS7.bx.free; have hF7 := (hF5.kr hk6).fl f7 (by omega); clear k0 k1 k2 k3 k4; obtain ⟨k0, k1, k2, k3, k4⟩ := hF7.cells; rw [hkey] at k1)
        have hul := ub.2
        have hput := rput_any (s := s) (m := m) (P.wordEnd s (P.blanks s i) : Nat) 10 (wordAt s (P.blanks s i)) (P.blanks s i : Nat) HS7.ro hl1
        have hts2 : (ts ++ [(10, wordAt s (P.blanks s i), ((P.blanks s i : Nat) : Int))]).length ≤ 100000 := by simp; omega
        generalize hts : ts ++ [(10, wordAt s (P.blanks s i), ((P.blanks s i : Nat) : Int))] = ts2 at hput hts2
        have HTS := Lib.hid hts
        clear hts
        refine hput.mono ?_
        rintro e' W20 ⟨v, rfl, gl20, cl20, go20, co20, ga20, ca20, rfl, hro20, hk20⟩
        go_wp2_with fail
        refine (rblanks_any (P.wordEnd s (P.blanks s i)) hG (by omega) (by omega) hro20).mono ?_
        rintro e' W21 ⟨v, rfl, gl21, cl21, go21, co21, ga21, ca21, rfl, hro21, hk21⟩
        have hk22 := hk20.trans hk21
        clear hk20 hk21
        have HH2 := Lib.hid (fun (c : Nat) (W : World) => rhere_any (s := s) (m := m) (gl := gl21) (nl := ts2.length) (cl := cl21) (go := go21) (no := fs'.length) (co := co21) (ga := ga21) (na := al.length) (ca := ca21) (w := W) (P.blanks s (P.wordEnd s (P.blanks s i))) 0 0 c (by omega))
        cases h123 : at1 s (P.blanks s (P.wordEnd s (P.blanks s i))) 123 with
        | false =>
          have HM : Hid (mustR s 123 3 f.2.2.1 (P.wordEnd s (P.blanks s i)) = failR s (P.blanks s (P.wordEnd s (P.blanks s i))) f.2.2.1) := Lib.hid (by rw [mustR, if_neg (by rw [h123]; decide)])
          go_wp2_with (first
                | (with_reducible refine gate_lx (p := 1) rfl ?_; refine wp_fill (HS7.bx.kr hk22) rfl rfl rfl rfl rfl ?_; intro W22 f22 hx22; have HS22 := HS7.next hA (Nat.le_refl _) hro21 hk22.mono f22 hx22; clear d0 d1 d2 d3 d4 d5 d6 d7 df; obtain ⟨d0, d1, d2, d3, d4, d5, d6, d7⟩ := HS22.bx.cells; have df := HS22.bx.free; have hF22 := (hF7.kr hk22).fl f22 (by omega); clear k0 k1 k2 k3 k4; obtain ⟨k0, k1, k2, k3, k4⟩ := hF22.cells; rw [hkey] at k1)
                | (go_at_call_of 41 (Value.int IntKind.u8 123); refine (HH2.out 123 _).mono ?_; rw [h123]; rintro e' W23 ⟨rfl, hb23⟩; have HS23 := HS22.later hb23; clear d0 d1 d2 d3 d4 d5 d6 d7 df; obtain ⟨d0, d1, d2, d3, d4, d5, d6, d7⟩ := HS23.bx.cells; have df := HS23.bx.free; have hF23 := hF22.later hb23; clear k0 k1 k2 k3 k4; obtain ⟨k0, k1, k2, k3, k4⟩ := hF23.cells; rw [hkey] at k1))
          refine (rlacks_any (P.blanks s (P.wordEnd s (P.blanks s i))) f.2.2.1 (P.blanks s (P.wordEnd s (P.blanks s i))) HS23.ro).mono ?_
          rintro e' W30 ⟨v, rfl, kk, aa, hfl, gl30, cl30, go30, co30, ga30, ca30, rfl, hro30, hk30⟩
          have HFL := Lib.hid hfl
          clear hfl
          go_wp2_with (with_reducible refine gate_lx (p := 2) rfl ?_; refine wp_fill (HS23.rb.kr hk30) rfl rfl rfl rfl rfl ?_; intro W31 f31 hr31)
          refine bodyPost_ret (bx_ret rfl rfl hr31) rfl ?_
          refine ⟨_, rfl, ?_⟩
          rw [HK.out, hokR.out]
          show RQ A s m w (ts ++ [_]) _ al (mustR s 123 3 f.2.2.1 (P.wordEnd s (P.blanks s i))) _ _
          rw [HM.out, HFL.out]
          exact ⟨_, _, _, _, gl30, cl30, go30, co30, ga30, ca30, rfl, hro30.fl (HS23.rb.kr hk30) f31 (by omega), (HS23.kr.trans hk30.mono).fl f31 (by omega)⟩
        | true =>
          have HM : Hid (mustR s 123 3 f.2.2.1 (P.wordEnd s (P.blanks s i)) = .ok (P.blanks s (P.wordEnd s (P.blanks s i)) + 1) [(3, (⟨#[]⟩ : ByteArray), ((P.blanks s (P.wordEnd s (P.blanks s i)) : Nat) : Int))] []) := Lib.hid (by rw [mustR, if_pos h123])
          have hlu := at1_lt _ _ _ h123
          go_wp2_with (first
                | (with_reducible refine gate_lx (p := 1) rfl ?_; refine wp_fill (HS7.bx.kr hk22) rfl rfl rfl rfl rfl ?_; intro W22 f22 hx22; have HS22 := HS7.next hA (Nat.le_refl _) hro21 hk22.mono f22 hx22; clear d0 d1 d2 d3 d4 d5 d6 d7 df; obtain ⟨d0, d1, d2, d3, d4, d5, d6, d7⟩ := HS22.bx.cells; have df := HS22.bx.free; have hF22 := (hF7.kr hk22).fl f22 (by omega); clear k0 k1 k2 k3 k4; obtain ⟨k0, k1, k2, k3, k4⟩ := hF22.cells; rw [hkey] at k1)
                | (go_at_call_of 41 (Value.int IntKind.u8 123); refine (HH2.out 123 _).mono ?_; rw [h123]; rintro e' W23 ⟨rfl, hb23⟩; have HS23 := HS22.later hb23; clear d0 d1 d2 d3 d4 d5 d6 d7 df; obtain ⟨d0, d1, d2, d3, d4, d5, d6, d7⟩ := HS23.bx.cells; have df := HS23.bx.free; have hF23 := hF22.later hb23; clear k0 k1 k2 k3 k4; obtain ⟨k0, k1, k2, k3, k4⟩ := hF23.cells; rw [hkey] at k1))
          have hput := rput_any (s := s) (m := m) (P.blanks s (P.wordEnd s (P.blanks s i)) : Nat) 3 (⟨#[]⟩ : ByteArray) (P.blanks s (P.wordEnd s (P.blanks s i)) : Nat) HS23.ro hts2
          generalize hts : ts2 ++ [(3, (⟨#[]⟩ : ByteArray), ((P.blanks s (P.wordEnd s (P.blanks s i)) : Nat) : Int))] = ts3 at hput
          have HTS3 := Lib.hid hts
          clear hts
          refine hput.mono ?_
          rintro e' W24 ⟨v, rfl, gl24, cl24, go24, co24, ga24, ca24, rfl, hro24, hk24⟩
          have eS2 : IntKind.i64.wrap (((P.blanks s (P.wordEnd s (P.blanks s i)) : Nat) : Int) + 1) = ((P.blanks s (P.wordEnd s (P.blanks s i)) + 1 : Nat) : Int) := by rw [IntWalk.i64_in _ (by omega)]; omega
          have eS3 : IntKind.i64.wrap (((P.blanks s (P.wordEnd s (P.blanks s i)) : Nat) : Int) + 1 - 1) = ((P.blanks s (P.wordEnd s (P.blanks s i)) : Nat) : Int) := by rw [IntWalk.i64_in _ (by omega)]; omega
          clear df
          have df : True := trivial
          go_wp2_with (with_reducible refine gate_lx (p := 1) rfl ?_; refine wp_fill (HS23.bx.kr hk24) rfl rfl rfl rfl rfl ?_; intro W25 f25 hx25; have HS25 := HS23.next hA (Nat.le_refl _) hro24 hk24.mono f25 hx25; clear d0 d1 d2 d3 d4 d5 d6 d7 df; obtain ⟨d0, d1, d2, d3, d4, d5, d6, d7⟩ := HS25.bx.cells; have df := HS25.bx.free)
          have HS26 : SB true A w w.heap.size s m ((P.blanks s (P.wordEnd s (P.blanks s i)) + 1 : Nat) : Int) ts3 fs' al gl24 cl24 go24 co24 ga24 ca24 (W25.setCell ⟨w.heap.size, 2, none⟩ (.int .i64 (((P.blanks s (P.wordEnd s (P.blanks s i)) : Nat) : Int) + 1))) := (HS25.set2 hA (Nat.le_refl _) (((P.blanks s (P.wordEnd s (P.blanks s i)) : Nat) : Int) + 1)).cast (by omega)
          generalize W25.setCell ⟨w.heap.size, 2, none⟩ (.int .i64 (((P.blanks s (P.wordEnd s (P.blanks s i)) : Nat) : Int) + 1)) = W26 at *
          have hin := rinside_any (fs := fs) (s := s) (m := m) (P.blanks s (P.wordEnd s (P.blanks s i)) + 1) ((P.blanks s (P.wordEnd s (P.blanks s i)) : Nat) : Int) (f := f) (by omega) (by have := HS26.ro; rw [hfs.out] at this; exact this)
          rw [← HLEN.out] at hin
          refine hin.mono ?_
          rintro e' W27 ⟨v, rfl, gl27, cl27, go27, co27, ga27, ca27, rfl, hro27, hk27⟩
          go_wp2_with (with_reducible refine gate_lx (p := 2) rfl ?_; refine wp_fill (HS26.rb.kr hk27) rfl rfl rfl rfl rfl ?_; intro W28 f28 hr28)
          refine bodyPost_ret (bx_ret rfl rfl hr28) rfl ?_
          refine ⟨_, rfl, ?_⟩
          rw [HK.out, hokR.out]
          show RQ A s m w (ts ++ [_]) _ al (mustR s 123 3 f.2.2.1 (P.wordEnd s (P.blanks s i))) _ _
          rw [HM.out]
          show RP true A s m w _ ((ts ++ [_]) ++ [_]) _ (al ++ []) 0 0 _ _
          rw [HTS.out, HTS3.out, List.append_nil]
          exact ⟨gl27, cl27, go27, co27, ga27, ca27, by simp, by simpa using hro27.fl (HS26.rb.kr hk27) f28 (by omega), (HS26.kr.trans hk27).fl f28 (by omega)⟩
      | true =>
        have hlt := at1_lt _ _ _ h61
        have HW : Hid (keyR s f.2.1 f.2.2.1 (P.blanks s i) = if numOk s (P.blanks s i + 1) then .ok (P.numEnd s (P.blanks s i + 1)) [(10, (⟨#[61]⟩ : ByteArray) ++ numAt s (P.blanks s i + 1), ((P.blanks s i : Nat) : Int))] []
            else failR s (if P.numEnd s (P.blanks s i + 1) = s.size ∧ (numAt s (P.blanks s i + 1)).size = 0 then P.numEnd s (P.blanks s i + 1) else (P.blanks s i)) f.2.2.1) := Lib.hid (by rw [keyR, hkey, h61]; simp only [Bool.and_true, if_true])
        have nb := numEnd_bd s (P.blanks s i + 1) (by omega)
        have eS : IntKind.i64.wrap (((P.blanks s i : Nat) : Int) + 1) = ((P.blanks s i + 1 : Nat) : Int) := by rw [IntWalk.i64_in _ (by omega)]; omega
        go_wp2_with (first
        | (with_reducible refine gate_lx (p := 1) rfl ?_; refine wp_fill (HS1.bx.kr hk2) rfl rfl rfl rfl rfl ?_; intro W3 f3 hx3; have HS3 := HS1.next hA (Nat.le_refl _) hro2 hk2.mono f3 hx3; clear d0 d1 d2 d3 d4 d5 d6 d7 df; obtain ⟨d0, d1, d2, d3, d4, d5, d6, d7⟩ := HS3.bx.cells; have df := HS3.bx.free; have hF3 := (hF1.kr hk2).fl f3 (by omega); clear k0 k1 k2 k3 k4; obtain ⟨k0, k1, k2, k3, k4⟩ := hF3.cells; rw [hkey] at k1)
        | (go_at_call_of 41 (Value.int IntKind.u8 125); refine (HH.out 125 _).mono ?_; rw [h125]; rintro e' W4 ⟨rfl, hb4⟩; have HS4 := HS3.later hb4; clear d0 d1 d2 d3 d4 d5 d6 d7 df; obtain ⟨d0, d1, d2, d3, d4, d5, d6, d7⟩ := HS4.bx.cells; have df := HS4.bx.free; have hF4 := hF3.later hb4; clear k0 k1 k2 k3 k4; obtain ⟨k0, k1, k2, k3, k4⟩ := hF4.cells; rw [hkey] at k1)
        | (go_at_call_of 41 (Value.int IntKind.u8 61); refine (HH.out 61 _).mono ?_; rw [h61]; rintro e' W5 ⟨rfl, hb5⟩; have HS5 := HS4.later hb5; clear d0 d1 d2 d3 d4 d5 d6 d7 df; obtain ⟨d0, d1, d2, d3, d4, d5, d6, d7⟩ := HS5.bx.cells; have df := HS5.bx.free; have hF5 := hF4.later hb5; clear k0 k1 k2 k3 k4; obtain ⟨k0, k1, k2, k3, k4⟩ := hF5.cells; rw [hkey] at k1))
        have HS6 : SB true A w w.heap.size s m ((P.blanks s i + 1 : Nat) : Int) ts fs' al gl2 cl2 go2 co2 ga2 ca2 (W5.setCell ⟨w.heap.size, 2, none⟩ (.int .i64 (((P.blanks s i : Nat) : Int) + 1))) := (HS5.set2 hA (Nat.le_refl _) (((P.blanks s i : Nat) : Int) + 1)).cast (by omega)
        have hF6 := hF5.set (b := w.heap.size) (by omega) 2 (.int .i64 (((P.blanks s i : Nat) : Int) + 1))
        generalize W5.setCell ⟨w.heap.size, 2, none⟩ (.int .i64 (((P.blanks s i : Nat) : Int) + 1)) = W6 at *
        refine (rnumber_any HP (P.blanks s i + 1) hG (by omega) (by omega) HS6.ro).mono ?_
        rintro e' W7 ⟨v, rfl, gl7, cl7, go7, co7, ga7, ca7, rfl, hro7, hk7⟩
        cases hok : numOk s (P.blanks s i + 1) with
        | false =>
          by_cases hs1 : s.size ≤ P.numEnd s (P.blanks s i + 1)
          · by_cases hb0 : (numAt s (P.blanks s i + 1)).toList = []
            · have hbe : (numAt s (P.blanks s i + 1)).toList.isEmpty = true := by rw [hb0]; rfl
              have hbadR : Hid (keyR s f.2.1 f.2.2.1 (P.blanks s i) = .er 190 f.2.2.1) := Lib.hid (by rw [HW.out, hok, if_neg Bool.false_ne_true, if_pos ⟨by omega, (tlNil _).1 hb0⟩, failR, if_pos hs1])
              go_wp2_with (with_reducible refine gate_lx (p := 1) rfl ?_; refine wp_fill (HS6.bx.kr hk7) rfl rfl rfl rfl rfl ?_; intro W8 f8 hx8; have HS8 := HS6.next hA (Nat.le_refl _) hro7 hk7.mono f8 hx8; clear d0 d1 d2 d3 d4 d5 d6 d7 df; obtain ⟨d0, d1, d2, d3, d4, d5, d6, d7⟩ := HS8.bx.cells; have df := HS8.bx.free; have hF8 := (hF6.kr hk7).fl f8 (by omega); clear k0 k1 k2 k3 k4; obtain ⟨k0, k1, k2, k3, k4⟩ := hF8.cells; rw [hkey] at k1)
              refine (rfails_any (P.numEnd s (P.blanks s i + 1) : Nat) 190 (f.2.2.1) HS8.ro).mono ?_
              rintro e' W30 ⟨v, rfl, gl30, cl30, go30, co30, ga30, ca30, rfl, hro30, hk30⟩
              go_wp2_with (with_reducible refine gate_lx (p := 2) rfl ?_; refine wp_fill (HS8.rb.kr hk30) rfl rfl rfl rfl rfl ?_; intro W31 f31 hr31)
              refine bodyPost_ret (bx_ret rfl rfl hr31) rfl ?_
              refine ⟨_, rfl, ?_⟩
              rw [HK.out, hbadR.out]
              exact ⟨_, _, _, _, gl30, cl30, go30, co30, ga30, ca30, rfl, hro30.fl (HS8.rb.kr hk30) f31 (by omega), (HS8.kr.trans hk30.mono).fl f31 (by omega)⟩
            · have hbe : (numAt s (P.blanks s i + 1)).toList.isEmpty = false := by simpa using hb0
              have hbadR : Hid (keyR s f.2.1 f.2.2.1 (P.blanks s i) = .er 191 ((P.blanks s i : Nat) : Int)) := Lib.hid (by rw [HW.out, hok, if_neg Bool.false_ne_true, if_neg (fun h => hb0 ((tlNil _).2 h.2)), failR, if_neg (by omega)])
              go_wp2_with (with_reducible refine gate_lx (p := 1) rfl ?_; refine wp_fill (HS6.bx.kr hk7) rfl rfl rfl rfl rfl ?_; intro W8 f8 hx8; have HS8 := HS6.next hA (Nat.le_refl _) hro7 hk7.mono f8 hx8; clear d0 d1 d2 d3 d4 d5 d6 d7 df; obtain ⟨d0, d1, d2, d3, d4, d5, d6, d7⟩ := HS8.bx.cells; have df := HS8.bx.free; have hF8 := (hF6.kr hk7).fl f8 (by omega); clear k0 k1 k2 k3 k4; obtain ⟨k0, k1, k2, k3, k4⟩ := hF8.cells; rw [hkey] at k1)
              refine (rfails_any (P.numEnd s (P.blanks s i + 1) : Nat) 191 (P.blanks s i) HS8.ro).mono ?_
              rintro e' W30 ⟨v, rfl, gl30, cl30, go30, co30, ga30, ca30, rfl, hro30, hk30⟩
              go_wp2_with (with_reducible refine gate_lx (p := 2) rfl ?_; refine wp_fill (HS8.rb.kr hk30) rfl rfl rfl rfl rfl ?_; intro W31 f31 hr31)
              refine bodyPost_ret (bx_ret rfl rfl hr31) rfl ?_
              refine ⟨_, rfl, ?_⟩
              rw [HK.out, hbadR.out]
              exact ⟨_, _, _, _, gl30, cl30, go30, co30, ga30, ca30, rfl, hro30.fl (HS8.rb.kr hk30) f31 (by omega), (HS8.kr.trans hk30.mono).fl f31 (by omega)⟩
          · have hs2 : (P.numEnd s (P.blanks s i + 1) : Int) < s.size := by omega
            have hbadR : Hid (keyR s f.2.1 f.2.2.1 (P.blanks s i) = .er 191 ((P.blanks s i : Nat) : Int)) := Lib.hid (by rw [HW.out, hok, if_neg Bool.false_ne_true, if_neg (fun h => by have := h.1; omega), failR, if_neg (by omega)])
            go_wp2_with (with_reducible refine gate_lx (p := 1) rfl ?_; refine wp_fill (HS6.bx.kr hk7) rfl rfl rfl rfl rfl ?_; intro W8 f8 hx8; have HS8 := HS6.next hA (Nat.le_refl _) hro7 hk7.mono f8 hx8; clear d0 d1 d2 d3 d4 d5 d6 d7 df; obtain ⟨d0, d1, d2, d3, d4, d5, d6, d7⟩ := HS8.bx.cells; have df := HS8.bx.free; have hF8 := (hF6.kr hk7).fl f8 (by omega); clear k0 k1 k2 k3 k4; obtain ⟨k0, k1, k2, k3, k4⟩ := hF8.cells; rw [hkey] at k1)
            refine (rfails_any (P.numEnd s (P.blanks s i + 1) : Nat) 191 (P.blanks s i) HS8.ro).mono ?_
            rintro e' W30 ⟨v, rfl, gl30, cl30, go30, co30, ga30, ca30, rfl, hro30, hk30⟩
            go_wp2_with (with_reducible refine gate_lx (p := 2) rfl ?_; refine wp_fill (HS8.rb.kr hk30) rfl rfl rfl rfl rfl ?_; intro W31 f31 hr31)
            refine bodyPost_ret (bx_ret rfl rfl hr31) rfl ?_
            refine ⟨_, rfl, ?_⟩
            rw [HK.out, hbadR.out]
            exact ⟨_, _, _, _, gl30, cl30, go30, co30, ga30, ca30, rfl, hro30.fl (HS8.rb.kr hk30) f31 (by omega), (HS8.kr.trans hk30.mono).fl f31 (by omega)⟩
        | true =>
          have hokR : Hid (keyR s f.2.1 f.2.2.1 (P.blanks s i) = .ok (P.numEnd s (P.blanks s i + 1)) [(10, (⟨#[61]⟩ : ByteArray) ++ numAt s (P.blanks s i + 1), ((P.blanks s i : Nat) : Int))] []) := Lib.hid (by rw [HW.out, hok, if_pos rfl])
          have ub := blanks_bd s (P.numEnd s (P.blanks s i + 1)) nb.2
          have hns : ¬ 9223372036854775807 < 1 + (numAt s (P.blanks s i + 1)).size := by
            have : (numAt s (P.blanks s i + 1)).size ≤ s.size := by rw [numAt]; simp [ByteArray.size_extract]; omega
            omega
          go_wp2_with (with_reducible refine gate_lx (p := 1) rfl ?_; refine wp_fill (HS6.bx.kr hk7) rfl rfl rfl rfl rfl ?_; intro W8 f8 hx8; have HS8 := HS6.next hA (Nat.le_refl _) hro7 hk7.mono f8 hx8; clear d0 d1 d2 d3 d4 d5 d6 d7 df; obtain ⟨d0, d1, d2, d3, d4, d5, d6, d7⟩ := HS8.bx.cells; have df := HS8.bx.free; have hF8 := (hF6.kr hk7).fl f8 (by omega); clear k0 k1 k2 k3 k4; obtain ⟨k0, k1, k2, k3, k4⟩ := hF8.cells; rw [hkey] at k1)
          have hul := ub.2
          have hput := rput_any (s := s) (m := m) (P.numEnd s (P.blanks s i + 1) : Nat) 10 ((⟨#[61]⟩ : ByteArray) ++ numAt s (P.blanks s i + 1)) (P.blanks s i : Nat) HS8.ro hl1
          have hts2 : (ts ++ [(10, (⟨#[61]⟩ : ByteArray) ++ numAt s (P.blanks s i + 1), ((P.blanks s i : Nat) : Int))]).length ≤ 100000 := by simp; omega
          generalize hts : ts ++ [(10, (⟨#[61]⟩ : ByteArray) ++ numAt s (P.blanks s i + 1), ((P.blanks s i : Nat) : Int))] = ts2 at hput hts2
          have HTS := Lib.hid hts
          clear hts
          refine hput.mono ?_
          rintro e' W20 ⟨v, rfl, gl20, cl20, go20, co20, ga20, ca20, rfl, hro20, hk20⟩
          go_wp2_with fail
          refine (rblanks_any (P.numEnd s (P.blanks s i + 1)) hG (by omega) (by omega) hro20).mono ?_
          rintro e' W21 ⟨v, rfl, gl21, cl21, go21, co21, ga21, ca21, rfl, hro21, hk21⟩
          have hk22 := hk20.trans hk21
          clear hk20 hk21
          have HH2 := Lib.hid (fun (c : Nat) (W : World) => rhere_any (s := s) (m := m) (gl := gl21) (nl := ts2.length) (cl := cl21) (go := go21) (no := fs'.length) (co := co21) (ga := ga21) (na := al.length) (ca := ca21) (w := W) (P.blanks s (P.numEnd s (P.blanks s i + 1))) 0 0 c (by omega))
          cases h123 : at1 s (P.blanks s (P.numEnd s (P.blanks s i + 1))) 123 with
          | false =>
            have HM : Hid (mustR s 123 3 f.2.2.1 (P.numEnd s (P.blanks s i + 1)) = failR s (P.blanks s (P.numEnd s (P.blanks s i + 1))) f.2.2.1) := Lib.hid (by rw [mustR, if_neg (by rw [h123]; decide)])
            go_wp2_with (first
                  | (with_reducible refine gate_lx (p := 1) rfl ?_; refine wp_fill (HS8.bx.kr hk22) rfl rfl rfl rfl rfl ?_; intro W22 f22 hx22; have HS22 := HS8.next hA (Nat.le_refl _) hro21 hk22.mono f22 hx22; clear d0 d1 d2 d3 d4 d5 d6 d7 df; obtain ⟨d0, d1, d2, d3, d4, d5, d6, d7⟩ := HS22.bx.cells; have df := HS22.bx.free; have hF22 := (hF8.kr hk22).fl f22 (by omega); clear k0 k1 k2 k3 k4; obtain ⟨k0, k1, k2, k3, k4⟩ := hF22.cells; rw [hkey] at k1)
                  | (go_at_call_of 41 (Value.int IntKind.u8 123); refine (HH2.out 123 _).mono ?_; rw [h123]; rintro e' W23 ⟨rfl, hb23⟩; have HS23 := HS22.later hb23; clear d0 d1 d2 d3 d4 d5 d6 d7 df; obtain ⟨d0, d1, d2, d3, d4, d5, d6, d7⟩ := HS23.bx.cells; have df := HS23.bx.free; have hF23 := hF22.later hb23; clear k0 k1 k2 k3 k4; obtain ⟨k0, k1, k2, k3, k4⟩ := hF23.cells; rw [hkey] at k1))
            refine (rlacks_any (P.blanks s (P.numEnd s (P.blanks s i + 1))) f.2.2.1 (P.blanks s (P.numEnd s (P.blanks s i + 1))) HS23.ro).mono ?_
            rintro e' W30 ⟨v, rfl, kk, aa, hfl, gl30, cl30, go30, co30, ga30, ca30, rfl, hro30, hk30⟩
            have HFL := Lib.hid hfl
            clear hfl
            go_wp2_with (with_reducible refine gate_lx (p := 2) rfl ?_; refine wp_fill (HS23.rb.kr hk30) rfl rfl rfl rfl rfl ?_; intro W31 f31 hr31)
            refine bodyPost_ret (bx_ret rfl rfl hr31) rfl ?_
            refine ⟨_, rfl, ?_⟩
            rw [HK.out, hokR.out]
            show RQ A s m w (ts ++ [_]) _ al (mustR s 123 3 f.2.2.1 (P.numEnd s (P.blanks s i + 1))) _ _
            rw [HM.out, HFL.out]
            exact ⟨_, _, _, _, gl30, cl30, go30, co30, ga30, ca30, rfl, hro30.fl (HS23.rb.kr hk30) f31 (by omega), (HS23.kr.trans hk30.mono).fl f31 (by omega)⟩
          | true =>
            have HM : Hid (mustR s 123 3 f.2.2.1 (P.numEnd s (P.blanks s i + 1)) = .ok (P.blanks s (P.numEnd s (P.blanks s i + 1)) + 1) [(3, (⟨#[]⟩ : ByteArray), ((P.blanks s (P.numEnd s (P.blanks s i + 1)) : Nat) : Int))] []) := Lib.hid (by rw [mustR, if_pos h123])
            have hlu := at1_lt _ _ _ h123
            go_wp2_with (first
                  | (with_reducible refine gate_lx (p := 1) rfl ?_; refine wp_fill (HS8.bx.kr hk22) rfl rfl rfl rfl rfl ?_; intro W22 f22 hx22; have HS22 := HS8.next hA (Nat.le_refl _) hro21 hk22.mono f22 hx22; clear d0 d1 d2 d3 d4 d5 d6 d7 df; obtain ⟨d0, d1, d2, d3, d4, d5, d6, d7⟩ := HS22.bx.cells; have df := HS22.bx.free; have hF22 := (hF8.kr hk22).fl f22 (by omega); clear k0 k1 k2 k3 k4; obtain ⟨k0, k1, k2, k3, k4⟩ := hF22.cells; rw [hkey] at k1)
                  | (go_at_call_of 41 (Value.int IntKind.u8 123); refine (HH2.out 123 _).mono ?_; rw [h123]; rintro e' W23 ⟨rfl, hb23⟩; have HS23 := HS22.later hb23; clear d0 d1 d2 d3 d4 d5 d6 d7 df; obtain ⟨d0, d1, d2, d3, d4, d5, d6, d7⟩ := HS23.bx.cells; have df := HS23.bx.free; have hF23 := hF22.later hb23; clear k0 k1 k2 k3 k4; obtain ⟨k0, k1, k2, k3, k4⟩ := hF23.cells; rw [hkey] at k1))
            have hput := rput_any (s := s) (m := m) (P.blanks s (P.numEnd s (P.blanks s i + 1)) : Nat) 3 (⟨#[]⟩ : ByteArray) (P.blanks s (P.numEnd s (P.blanks s i + 1)) : Nat) HS23.ro hts2
            generalize hts : ts2 ++ [(3, (⟨#[]⟩ : ByteArray), ((P.blanks s (P.numEnd s (P.blanks s i + 1)) : Nat) : Int))] = ts3 at hput
            have HTS3 := Lib.hid hts
            clear hts
            refine hput.mono ?_
            rintro e' W24 ⟨v, rfl, gl24, cl24, go24, co24, ga24, ca24, rfl, hro24, hk24⟩
            have eS2 : IntKind.i64.wrap (((P.blanks s (P.numEnd s (P.blanks s i + 1)) : Nat) : Int) + 1) = ((P.blanks s (P.numEnd s (P.blanks s i + 1)) + 1 : Nat) : Int) := by rw [IntWalk.i64_in _ (by omega)]; omega
            have eS3 : IntKind.i64.wrap (((P.blanks s (P.numEnd s (P.blanks s i + 1)) : Nat) : Int) + 1 - 1) = ((P.blanks s (P.numEnd s (P.blanks s i + 1)) : Nat) : Int) := by rw [IntWalk.i64_in _ (by omega)]; omega
            clear df
            have df : True := trivial
            go_wp2_with (with_reducible refine gate_lx (p := 1) rfl ?_; refine wp_fill (HS23.bx.kr hk24) rfl rfl rfl rfl rfl ?_; intro W25 f25 hx25; have HS25 := HS23.next hA (Nat.le_refl _) hro24 hk24.mono f25 hx25; clear d0 d1 d2 d3 d4 d5 d6 d7 df; obtain ⟨d0, d1, d2, d3, d4, d5, d6, d7⟩ := HS25.bx.cells; have df := HS25.bx.free)
            have HS26 : SB true A w w.heap.size s m ((P.blanks s (P.numEnd s (P.blanks s i + 1)) + 1 : Nat) : Int) ts3 fs' al gl24 cl24 go24 co24 ga24 ca24 (W25.setCell ⟨w.heap.size, 2, none⟩ (.int .i64 (((P.blanks s (P.numEnd s (P.blanks s i + 1)) : Nat) : Int) + 1))) := (HS25.set2 hA (Nat.le_refl _) (((P.blanks s (P.numEnd s (P.blanks s i + 1)) : Nat) : Int) + 1)).cast (by omega)
            generalize W25.setCell ⟨w.heap.size, 2, none⟩ (.int .i64 (((P.blanks s (P.numEnd s (P.blanks s i + 1)) : Nat) : Int) + 1)) = W26 at *
            have hin := rinside_any (fs := fs) (s := s) (m := m) (P.blanks s (P.numEnd s (P.blanks s i + 1)) + 1) ((P.blanks s (P.numEnd s (P.blanks s i + 1)) : Nat) : Int) (f := f) (by omega) (by have := HS26.ro; rw [hfs.out] at this; exact this)
            rw [← HLEN.out] at hin
            refine hin.mono ?_
            rintro e' W27 ⟨v, rfl, gl27, cl27, go27, co27, ga27, ca27, rfl, hro27, hk27⟩
            go_wp2_with (with_reducible refine gate_lx (p := 2) rfl ?_; refine wp_fill (HS26.rb.kr hk27) rfl rfl rfl rfl rfl ?_; intro W28 f28 hr28)
            refine bodyPost_ret (bx_ret rfl rfl hr28) rfl ?_
            refine ⟨_, rfl, ?_⟩
            rw [HK.out, hokR.out]
            show RQ A s m w (ts ++ [_]) _ al (mustR s 123 3 f.2.2.1 (P.numEnd s (P.blanks s i + 1))) _ _
            rw [HM.out]
            show RP true A s m w _ ((ts ++ [_]) ++ [_]) _ (al ++ []) 0 0 _ _
            rw [HTS.out, HTS3.out, List.append_nil]
            exact ⟨gl27, cl27, go27, co27, ga27, ca27, by simp, by simpa using hro27.fl (HS26.rb.kr hk27) f28 (by omega), (HS26.kr.trans hk27).fl f28 (by omega)⟩
end
end Go.Proofs.YtcnhklcbibpjpaaGreatDoor
