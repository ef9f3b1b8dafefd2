/- Lemmas behind the laws of the tokens; no conditions. -/
import Derived.Test.YtcnhklcbibpjpaaGreatDoorZRgs
import Derived.Test.YtcnhklcbibpjpaaGreatDoorZRgr
import Derived.Test.YtcnhklcbibpjpaaGreatDoorZRgq
import Derived.Deep.LoopGhost
set_option linter.unusedVariables false
set_option linter.unusedSimpArgs false

namespace Go.Proofs.YtcnhklcbibpjpaaGreatDoor
open Go.RowKit P Ext PRfa
section
variable {A : World} {s : ByteArray} {m : Int} {ts : List Tk} {fs fs2 : List Fr} {al : List Nat} {gl go ga : Option Addr} {cl co ca nl no na : Nat} {w : World}
theorem KeyP.rm {f : Fr} {i : Nat} {v : Value} {W : World} (h : KeyP A s m w ts fs f al (P.blanks s i) v W) : RM A s m w (keyM s i ts fs f al) v W := by
  rw [KeyP] at h
  rw [keyM]
  by_cases h1 : at1 s (P.blanks s i) 125 = true
  · rw [if_pos h1] at h ⊢
    exact h
  · rw [if_neg h1] at h ⊢
    cases hk : keyR s f.2.1 f.2.2.1 (P.blanks s i) with
    | er k a => rw [hk] at h; exact h
    | ok j ts1 al1 => rw [hk] at h; exact RQ.rm h
structure SL (A w : World) (s : ByteArray) (m i e a : Int) (ts : List Tk) (fs : List Fr) (al : List Nat) (gl : Option Addr) (cl : Nat) (go : Option Addr) (co : Nat) (ga : Option Addr) (ca : Nat) (W : World) : Prop where
  ro : RO A ts fs al gl cl go co ga ca W
  bx : Bx (w.heap.size + 1) s m i (.slice gl ts.length cl) (.slice go fs.length co) e a (.slice ga al.length ca) W
  rb : Bx w.heap.size ⟨#[]⟩ 0 0 (.slice none 0 0) (.slice none 0 0) 0 0 (.slice none 0 0) W
  kr : KR true w W
  hA : A.heap.size ≤ w.heap.size
theorem SL.later {i e a : Int} {w0 W W' : World} (h : SL A w0 s m i e a ts fs al gl cl go co ga ca W) (hb : Below W.heap.size W W') : SL A w0 s m i e a ts fs al gl cl go co ga ca W' :=
  ⟨h.ro.later hb, h.bx.kr (KR.ofBelow (fb := true) hb), h.rb.kr (KR.ofBelow (fb := true) hb), h.kr.trans (KR.ofBelow hb), h.hA⟩
theorem SL.next {i e a : Int} {w0 W1 W2 W3 : World} (h : SL A w0 s m i e a ts fs al gl cl go co ga ca W1) {i2 e2 a2 : Int} {ts2 : List Tk} {fs2 : List Fr} {al2 : List Nat} {gl2 go2 ga2 : Option Addr} {cl2 co2 ca2 : Nat}
    (hro : RO A ts2 fs2 al2 gl2 cl2 go2 co2 ga2 ca2 W2) (hk : KR true W1 W2) (f : Fl (w0.heap.size + 1) W2 W3) (hx : Bx (w0.heap.size + 1) s m i2 (.slice gl2 ts2.length cl2) (.slice go2 fs2.length co2) e2 a2 (.slice ga2 al2.length ca2) W3) : SL A w0 s m i2 e2 a2 ts2 fs2 al2 gl2 cl2 go2 co2 ga2 ca2 W3 := by
  have := h.hA
  exact ⟨hro.fl (h.bx.kr hk) f (by omega), hx, (h.rb.kr hk).fl f (by omega), (h.kr.trans hk).fl f (by omega), h.hA⟩
def LxS (A : World) (s : ByteArray) (m : Int) (x : MR) (k : Nat) (w W : World) : Prop :=
  (∃ (i : Nat) (ts : List Tk) (fs : List Fr) (al : List Nat) (gl : Option Addr) (cl : Nat) (go : Option Addr) (co : Nat) (ga : Option Addr) (ca : Nat), runM s m k i ts fs al = some x ∧ i ≤ s.size ∧ ts.length ≤ i ∧ fs.length ≤ i ∧ al.length ≤ i ∧
    SL A w s m (i : Int) 0 0 ts fs al gl cl go co ga ca W) ∨
  (∃ (kk a : Int) (i : Int) (ts : List Tk) (fs : List Fr) (al : List Nat) (gl : Option Addr) (cl : Nat) (go : Option Addr) (co : Nat) (ga : Option Addr) (ca : Nat), x = .er kk a ∧ SL A w s m i kk a ts fs al gl cl go co ga ca W)
theorem runM_top (k i : Nat) : runM s m (k + 1) i ts [] al = contM (msgM s m i ts [] al) fun j ts2 fs2 al2 => if s.size ≤ j then some (.ok j ts2 fs2 al2) else contM (synM s j ts2 fs2 al2) (runM s m k) := by rw [runM]; rfl
theorem runM_in (k i : Nat) (f : Fr) (hf : f.2.2.2.1 = true) : runM s m (k + 1) i ts (fs ++ [f]) al = contM (msgM s m i ts (fs ++ [f]) al) fun j ts2 fs2 al2 => if s.size ≤ j then some (.ok j ts2 fs2 al2) else contM (synM s j ts2 fs2 al2) (runM s m k) := by
  rw [runM]; simp only [List.getLast?_append, List.getLast?_singleton, Option.some_or]; rw [if_pos hf]
theorem runM_key (k i : Nat) (f : Fr) (hf : f.2.2.2.1 = false) : runM s m (k + 1) i ts (fs ++ [f]) al = contM (keyM s i ts fs f al) (runM s m k) := by
  rw [runM]; simp only [List.getLast?_append, List.getLast?_singleton, Option.some_or, List.dropLast_concat]; rw [if_neg (by rw [hf]; decide)]
theorem msgM_stop {i j : Nat} {ts2 : List Tk} {fs3 : List Fr} {al2 : List Nat} (hi : i ≤ s.size) (h : msgM s m i ts fs2 al = .ok j ts2 fs3 al2) (hj : ¬ s.size ≤ j) : P.b8 s j = 123 ∨ P.b8 s j = 35 ∨ fs3 ≠ [] := by
  rw [msgM] at h
  split at h
  · rename_i h0
    have hf : fs2 = [] := List.getLast?_eq_none_iff.1 h0
    cases h
    have hs := textE_stop (s := s) (m := m) 0 true i hi
    rcases hs with hs | hs
    · omega
    · left
      have h5 := hs.2.2
      have h6 := hs.2.1
      unfold synB at h6
      simp at h6 h5
      omega
  · rename_i f h0
    split at h
    · cases h
    · cases h
      right; right
      intro e
      rw [e] at h0
      simp at h0
set_option maxRecDepth 100000 in
set_option maxHeartbeats 8000000 in
theorem rlex_any (HP : ParseC) (HT : TrimC) (HI : IdentC) (hG : GlH w) (hz : s.size ≤ 70000) (x : MR) (hx : Runs s m 0 [] [] [] x) (hne : ∀ k a, x = .er k a → k ≠ 0) :
    Calls Tryz.prog 21 #[.string s, .int .i64 m] w fun e w' => ∃ v, e = .returned v ∧ RM w s m w x v w' := by
  obtain ⟨k0, hk0⟩ := hx
  have HX := Lib.hid hk0
  have HNE := Lib.hid hne
  clear hk0 hne
  have hr0 := Bx.new (s := ⟨#[]⟩) (m := 0) (i := 0) (vl := .slice none 0 0) (vo := .slice none 0 0) (e := 0) (a := 0) (va := .slice none 0 0) w
  have hb0 := Bx.new (s := ⟨#[]⟩) (m := 0) (i := 0) (vl := .slice none 0 0) (vo := .slice none 0 0) (e := 0) (a := 0) (va := .slice none 0 0) (w.alloc (.cells #[.string ⟨#[]⟩, .int .i64 0, .int .i64 0, .slice none 0 0, .slice none 0 0, .int .i64 0, .int .i64 0, .slice none 0 0] 49))
  have hs0 : (w.alloc (.cells #[.string ⟨#[]⟩, .int .i64 0, .int .i64 0, .slice none 0 0, .slice none 0 0, .int .i64 0, .int .i64 0, .slice none 0 0] 49)).heap.size = w.heap.size + 1 := by simp
  rw [hs0] at hb0
  have hr1 := hr0.alloc (.cells #[.string ⟨#[]⟩, .int .i64 0, .int .i64 0, .slice none 0 0, .slice none 0 0, .int .i64 0, .int .i64 0, .slice none 0 0] 49)
  clear hr0 hs0
  have hbe : Below w.heap.size w ((w.alloc (.cells #[.string ⟨#[]⟩, .int .i64 0, .int .i64 0, .slice none 0 0, .slice none 0 0, .int .i64 0, .int .i64 0, .slice none 0 0] 49)).alloc (.cells #[.string ⟨#[]⟩, .int .i64 0, .int .i64 0, .slice none 0 0, .slice none 0 0, .int .i64 0, .int .i64 0, .slice none 0 0] 49)) := ((Below.refl _ w).alloc (Nat.le_refl _) _).alloc (by simp) _
  go_enter Tryz.func21, Tryz.ntmps21
  go_wp2_with (with_reducible refine gate_lx (p := 5) rfl ?_; refine wp_fill hb0 rfl rfl rfl rfl rfl ?_; intro W1 f1 hx1)
  have HS0 : SL w w s m ((0 : Nat) : Int) 0 0 [] [] [] none 0 none 0 none 0 W1 := by
    refine ⟨RO.fl (ts := []) (fs := []) (al := []) ⟨World.ownsRow_nil _ _ _ _, World.ownsRow_nil _ _ _ _, World.ownsRow_nil _ _ _ _, hbe⟩ hb0 f1 (by omega), hx1, hr1.fl f1 (by omega), (KR.ofBelow hbe).fl f1 (by omega), Nat.le_refl _⟩
  clear hr1 hb0 hbe f1 hx1
  go_loopg [] k0 (fun kq wr => LxS w s m x kq w wr)
  case atStart => exact .inl ⟨0, [], [], [], none, 0, none, 0, none, 0, HX.out, Nat.zero_le _, by simp, by simp, by simp, HS0⟩
  case round =>
    clear HS0 HX
    rcases hrel with ⟨i, ts, fs2, al, gl, cl, go, co, ga, ca, hrun, hi, hts, hfs, hal, HS1⟩ | ⟨kk, a, i, ts, fs2, al, gl, cl, go, co, ga, ca, hxe, HS1⟩
    rotate_left
    focus
      have hk := HNE.out kk a hxe
      have ek : (kk == 0) = false := by simpa using hk
      have HXE := Lib.hid hxe
      clear hxe hk
      obtain ⟨d0, d1, d2, d3, d4, d5, d6, d7⟩ := HS1.bx.cells; have df := HS1.bx.free
      go_wp2_with (with_reducible refine gate_lx (p := 4) rfl ?_; refine wp_fill HS1.rb rfl rfl rfl rfl rfl ?_; intro W9 f9 hr9)
      refine bodyPost_ret (bx_ret rfl rfl hr9) rfl ?_
      refine ⟨_, rfl, ?_⟩
      rw [HXE.out]
      exact ⟨i, ts, fs2, al, gl, cl, go, co, ga, ca, rfl, HS1.ro.fl HS1.rb f9 (Nat.le_refl _), HS1.kr.fl f9 (Nat.le_refl _)⟩
    rotate_right
    cases gk with
    | zero => simp [runM] at hrun
    | succ k =>
    obtain ⟨d0, d1, d2, d3, d4, d5, d6, d7⟩ := HS1.bx.cells; have df := HS1.bx.free
    have HRUN := Lib.hid hrun
    clear hrun
    have hal' := hal
    rcases hcase : fs2.getLast? with _ | f
    · have hnil : fs2 = [] := List.getLast?_eq_none_iff.1 hcase
      subst hnil
      have HCM : Hid (contM (msgM s m i ts [] al) (fun j ts2 fs2 al2 => if s.size ≤ j then some (.ok j ts2 fs2 al2) else contM (synM s j ts2 fs2 al2) (runM s m k)) = some x) := Lib.hid (by rw [← HRUN.out, runM_top])
      clear hcase
      go_wp2_with fail
      refine (rmsg_any i hG (by omega) hi (by omega) (by first | omega | simp) hal' HS1.ro).mono ?_
      rintro e' W2 ⟨v, rfl, hq⟩
      have hmb := msgM_MB (s := s) (m := m) i hi ts [] al hts hfs hal
      have HCK' := HCM.out
      cases hkm : msgM s m i ts [] al with
      | er kk a =>
        rw [hkm] at hq HCK'
        obtain ⟨i2, ts2, fs3, al2, gl2, cl2, go2, co2, ga2, ca2, rfl, hro2, hk2⟩ := hq
        have hxe : x = .er kk a := (Option.some.inj HCK').symm
        have hk := HNE.out kk a hxe
        have ek : (kk != 0) = true := by simpa using hk
        have ek2 : (kk == 0) = false := by simpa using hk
        have HXE := Lib.hid hxe
        clear HCM HCK' hkm hmb hxe hk
        go_wp2_with (first
          | (with_reducible refine gate_lx (p := 5) rfl ?_; refine wp_fill (HS1.bx.kr hk2) rfl rfl rfl rfl rfl ?_; intro W3 f3 hx3; have HS3 := HS1.next hro2 hk2 f3 hx3; clear d0 d1 d2 d3 d4 d5 d6 d7 df; obtain ⟨d0, d1, d2, d3, d4, d5, d6, d7⟩ := HS3.bx.cells; have df := HS3.bx.free)
          | (with_reducible refine gate_lx (p := 4) rfl ?_; refine wp_fill HS3.rb rfl rfl rfl rfl rfl ?_; intro W9 f9 hr9))
        refine bodyPost_ret (bx_ret rfl rfl hr9) rfl ?_
        refine ⟨_, rfl, ?_⟩
        rw [HXE.out]
        exact ⟨i2, ts2, fs3, al2, gl2, cl2, go2, co2, ga2, ca2, rfl, HS3.ro.fl HS3.rb f9 (Nat.le_refl _), HS3.kr.fl f9 (Nat.le_refl _)⟩
      | ok j ts2 fs3 al2 =>
        have HMS := Lib.hid (fun hj => msgM_stop hi hkm hj)
        rw [hkm] at hq HCK' hmb
        obtain ⟨gl2, cl2, go2, co2, ga2, ca2, rfl, hro2, hk2⟩ := hq
        obtain ⟨hb1, hb2, hb3, hb4⟩ := hmb _ _ _ _ rfl
        have HEN := Lib.hid (fun (W : World) => rends_any (s := s) (m := m) (gl := gl2) (nl := ts2.length) (cl := cl2) (go := go2) (no := fs3.length) (co := co2) (ga := ga2) (na := al2.length) (ca := ca2) (w := W) j 0 0)
        have HCK2 : Hid ((if s.size ≤ j then some (.ok j ts2 fs3 al2) else contM (synM s j ts2 fs3 al2) (runM s m k)) = some x) := Lib.hid HCK'
        clear HCM HCK' hkm hmb
        by_cases hj : s.size ≤ j
        · have hxe : x = .ok j ts2 fs3 al2 := by have h := HCK2.out; rw [if_pos hj] at h; exact (Option.some.inj h).symm
          have HXE := Lib.hid hxe
          clear hxe HMS
          have eE : decide (s.size ≤ j) = true := decide_eq_true hj
          go_wp2_with (first
            | (with_reducible refine gate_lx (p := 5) rfl ?_; refine wp_fill (HS1.bx.kr hk2) rfl rfl rfl rfl rfl ?_; intro W3 f3 hx3; have HS3 := HS1.next hro2 hk2 f3 hx3; clear d0 d1 d2 d3 d4 d5 d6 d7 df; obtain ⟨d0, d1, d2, d3, d4, d5, d6, d7⟩ := HS3.bx.cells; have df := HS3.bx.free)
            | (go_at_call 32; refine (HEN.out _).mono ?_; rintro e' W4 ⟨rfl, hb4'⟩; have HS4 := HS3.later hb4'; clear d0 d1 d2 d3 d4 d5 d6 d7 df; obtain ⟨d0, d1, d2, d3, d4, d5, d6, d7⟩ := HS4.bx.cells; have df := HS4.bx.free)
            | (with_reducible refine gate_lx (p := 4) rfl ?_; refine wp_fill HS4.rb rfl rfl rfl rfl rfl ?_; intro W9 f9 hr9))
          refine bodyPost_ret (bx_ret rfl rfl hr9) rfl ?_
          refine ⟨_, rfl, ?_⟩
          rw [HXE.out]
          exact ⟨gl2, cl2, go2, co2, ga2, ca2, rfl, HS4.ro.fl HS4.rb f9 (Nat.le_refl _), HS4.kr.fl f9 (Nat.le_refl _)⟩
        · have hok := HMS.out hj
          have HCK3 : Hid (contM (synM s j ts2 fs3 al2) (runM s m k) = some x) := Lib.hid (by have h := HCK2.out; rw [if_neg hj] at h; exact h)
          have eE : decide (s.size ≤ j) = false := decide_eq_false hj
          have HOK := Lib.hid hok
          clear hok HMS HCK2
          go_wp2_with (first
            | (with_reducible refine gate_lx (p := 5) rfl ?_; refine wp_fill (HS1.bx.kr hk2) rfl rfl rfl rfl rfl ?_; intro W3 f3 hx3; have HS3 := HS1.next hro2 hk2 f3 hx3; clear d0 d1 d2 d3 d4 d5 d6 d7 df; obtain ⟨d0, d1, d2, d3, d4, d5, d6, d7⟩ := HS3.bx.cells; have df := HS3.bx.free)
            | (go_at_call 32; refine (HEN.out _).mono ?_; rintro e' W4 ⟨rfl, hb4'⟩; have HS4 := HS3.later hb4'; clear d0 d1 d2 d3 d4 d5 d6 d7 df; obtain ⟨d0, d1, d2, d3, d4, d5, d6, d7⟩ := HS4.bx.cells; have df := HS4.bx.free))
          refine (rsyn_any HP HT HI hG (by omega) j (by omega) (by omega) (by omega) HS4.ro HOK.out).mono ?_
          rintro e' W5 ⟨v, rfl, hq⟩
          have hmb := synM_MB (s := s) j (by omega) ts2 fs3 al2 hb2 hb3 hb4
          have HCK' := HCK3.out
          cases hkm : synM s j ts2 fs3 al2 with
          | er kk a =>
            rw [hkm] at hq HCK'
            obtain ⟨i5, ts5, fs5, al5, gl5, cl5, go5, co5, ga5, ca5, rfl, hro5, hk5⟩ := hq
            have hxe : x = .er kk a := (Option.some.inj HCK').symm
            clear HCK3 HCK' hkm hmb
            go_wp2_with (with_reducible refine gate_lx (p := 5) rfl ?_; refine wp_fill (HS4.bx.kr hk5) rfl rfl rfl rfl rfl ?_; intro W6 f6 hx6; have HS6 := HS4.next hro5 hk5 f6 hx6)
            go_roundg k
            case measure => omega
            case rel => exact .inr ⟨kk, a, i5, ts5, fs5, al5, gl5, cl5, go5, co5, ga5, ca5, hxe, HS6⟩
          | ok i5 ts5 fs5 al5 =>
            rw [hkm] at hq HCK' hmb
            obtain ⟨gl5, cl5, go5, co5, ga5, ca5, rfl, hro5, hk5⟩ := hq
            obtain ⟨hc1, hc2, hc3, hc4⟩ := hmb _ _ _ _ rfl
            have HCK4 : Hid (runM s m k i5 ts5 fs5 al5 = some x) := Lib.hid HCK'
            clear HCK3 HCK' hkm hmb
            go_wp2_with (with_reducible refine gate_lx (p := 5) rfl ?_; refine wp_fill (HS4.bx.kr hk5) rfl rfl rfl rfl rfl ?_; intro W6 f6 hx6; have HS6 := HS4.next hro5 hk5 f6 hx6)
            go_roundg k
            case measure => omega
            case rel => exact .inl ⟨i5, ts5, fs5, al5, gl5, cl5, go5, co5, ga5, ca5, HCK4.out, hc1, hc2, hc3, hc4, HS6⟩
    · obtain ⟨fs, hfs2⟩ : ∃ fs, fs2 = fs ++ [f] := by
        rcases List.eq_nil_or_concat fs2 with e | ⟨a, b, e⟩
        · rw [e] at hcase; simp at hcase
        · rw [List.concat_eq_append] at e; rw [e] at hcase; simp at hcase; exact ⟨a, by rw [e, hcase]⟩
      clear hcase
      obtain ⟨g, hgo, hg, hgA, ⟨cur, hcur⟩, c0, c1, c2, c3, c4⟩ := (hfs2 ▸ HS1.ro : RO w ts (fs ++ [f]) al gl cl go co ga ca wr).top
      subst hgo
      have hlen : fs2.length = fs.length + 1 := by rw [hfs2]; simp
      have HFS := Lib.hid hfs2
      clear hfs2 c0 c1 c2 c4 hcur
      have w1 : IntKind.i64.wrap ((fs2.length : Int) - 1) = (fs.length : Int) := by rw [IntWalk.i64_in _ (by omega)]; omega
      have w2 : (fs.length : Int) < fs2.length := by omega
      have w3 : 0 < fs2.length := by omega
      have w4 : decide (0 < fs2.length) = true := decide_eq_true w3
      have w5 : (0 : Int) ≤ (fs.length : Int) := by omega
      have HLEN := Lib.hid hlen
      clear hlen
      cases hin : f.2.2.2.1 with
      | true =>
        rw [hin] at c3
        have HCM : Hid (contM (msgM s m i ts fs2 al) (fun j ts2 fs2 al2 => if s.size ≤ j then some (.ok j ts2 fs2 al2) else contM (synM s j ts2 fs2 al2) (runM s m k)) = some x) := Lib.hid (by rw [← HRUN.out, HFS.out, runM_in k i f hin])
        clear hin
        go_wp2_with fail
        refine (rmsg_any i hG (by omega) hi (by omega) (by first | omega | simp) hal' HS1.ro).mono ?_
        rintro e' W2 ⟨v, rfl, hq⟩
        have hmb := msgM_MB (s := s) (m := m) i hi ts fs2 al hts hfs hal
        have HCK' := HCM.out
        cases hkm : msgM s m i ts fs2 al with
        | er kk a =>
          rw [hkm] at hq HCK'
          obtain ⟨i2, ts2, fs3, al2, gl2, cl2, go2, co2, ga2, ca2, rfl, hro2, hk2⟩ := hq
          have hxe : x = .er kk a := (Option.some.inj HCK').symm
          have hk := HNE.out kk a hxe
          have ek : (kk != 0) = true := by simpa using hk
          have ek2 : (kk == 0) = false := by simpa using hk
          have HXE := Lib.hid hxe
          clear HCM HCK' hkm hmb hxe hk
          go_wp2_with (first
            | (with_reducible refine gate_lx (p := 5) rfl ?_; refine wp_fill (HS1.bx.kr hk2) rfl rfl rfl rfl rfl ?_; intro W3 f3 hx3; have HS3 := HS1.next hro2 hk2 f3 hx3; clear d0 d1 d2 d3 d4 d5 d6 d7 df; obtain ⟨d0, d1, d2, d3, d4, d5, d6, d7⟩ := HS3.bx.cells; have df := HS3.bx.free)
            | (with_reducible refine gate_lx (p := 4) rfl ?_; refine wp_fill HS3.rb rfl rfl rfl rfl rfl ?_; intro W9 f9 hr9))
          refine bodyPost_ret (bx_ret rfl rfl hr9) rfl ?_
          refine ⟨_, rfl, ?_⟩
          rw [HXE.out]
          exact ⟨i2, ts2, fs3, al2, gl2, cl2, go2, co2, ga2, ca2, rfl, HS3.ro.fl HS3.rb f9 (Nat.le_refl _), HS3.kr.fl f9 (Nat.le_refl _)⟩
        | ok j ts2 fs3 al2 =>
          have HMS := Lib.hid (fun hj => msgM_stop hi hkm hj)
          rw [hkm] at hq HCK' hmb
          obtain ⟨gl2, cl2, go2, co2, ga2, ca2, rfl, hro2, hk2⟩ := hq
          obtain ⟨hb1, hb2, hb3, hb4⟩ := hmb _ _ _ _ rfl
          have HEN := Lib.hid (fun (W : World) => rends_any (s := s) (m := m) (gl := gl2) (nl := ts2.length) (cl := cl2) (go := go2) (no := fs3.length) (co := co2) (ga := ga2) (na := al2.length) (ca := ca2) (w := W) j 0 0)
          have HCK2 : Hid ((if s.size ≤ j then some (.ok j ts2 fs3 al2) else contM (synM s j ts2 fs3 al2) (runM s m k)) = some x) := Lib.hid HCK'
          clear HCM HCK' hkm hmb
          by_cases hj : s.size ≤ j
          · have hxe : x = .ok j ts2 fs3 al2 := by have h := HCK2.out; rw [if_pos hj] at h; exact (Option.some.inj h).symm
            have HXE := Lib.hid hxe
            clear hxe HMS
            have eE : decide (s.size ≤ j) = true := decide_eq_true hj
            go_wp2_with (first
              | (with_reducible refine gate_lx (p := 5) rfl ?_; refine wp_fill (HS1.bx.kr hk2) rfl rfl rfl rfl rfl ?_; intro W3 f3 hx3; have HS3 := HS1.next hro2 hk2 f3 hx3; clear d0 d1 d2 d3 d4 d5 d6 d7 df; obtain ⟨d0, d1, d2, d3, d4, d5, d6, d7⟩ := HS3.bx.cells; have df := HS3.bx.free)
              | (go_at_call 32; refine (HEN.out _).mono ?_; rintro e' W4 ⟨rfl, hb4'⟩; have HS4 := HS3.later hb4'; clear d0 d1 d2 d3 d4 d5 d6 d7 df; obtain ⟨d0, d1, d2, d3, d4, d5, d6, d7⟩ := HS4.bx.cells; have df := HS4.bx.free)
              | (with_reducible refine gate_lx (p := 4) rfl ?_; refine wp_fill HS4.rb rfl rfl rfl rfl rfl ?_; intro W9 f9 hr9))
            refine bodyPost_ret (bx_ret rfl rfl hr9) rfl ?_
            refine ⟨_, rfl, ?_⟩
            rw [HXE.out]
            exact ⟨gl2, cl2, go2, co2, ga2, ca2, rfl, HS4.ro.fl HS4.rb f9 (Nat.le_refl _), HS4.kr.fl f9 (Nat.le_refl _)⟩
          · have hok := HMS.out hj
            have HCK3 : Hid (contM (synM s j ts2 fs3 al2) (runM s m k) = some x) := Lib.hid (by have h := HCK2.out; rw [if_neg hj] at h; exact h)
            have eE : decide (s.size ≤ j) = false := decide_eq_false hj
            have HOK := Lib.hid hok
            clear hok HMS HCK2
            go_wp2_with (first
              | (with_reducible refine gate_lx (p := 5) rfl ?_; refine wp_fill (HS1.bx.kr hk2) rfl rfl rfl rfl rfl ?_; intro W3 f3 hx3; have HS3 := HS1.next hro2 hk2 f3 hx3; clear d0 d1 d2 d3 d4 d5 d6 d7 df; obtain ⟨d0, d1, d2, d3, d4, d5, d6, d7⟩ := HS3.bx.cells; have df := HS3.bx.free)
              | (go_at_call 32; refine (HEN.out _).mono ?_; rintro e' W4 ⟨rfl, hb4'⟩; have HS4 := HS3.later hb4'; clear d0 d1 d2 d3 d4 d5 d6 d7 df; obtain ⟨d0, d1, d2, d3, d4, d5, d6, d7⟩ := HS4.bx.cells; have df := HS4.bx.free))
            refine (rsyn_any HP HT HI hG (by omega) j (by omega) (by omega) (by omega) HS4.ro HOK.out).mono ?_
            rintro e' W5 ⟨v, rfl, hq⟩
            have hmb := synM_MB (s := s) j (by omega) ts2 fs3 al2 hb2 hb3 hb4
            have HCK' := HCK3.out
            cases hkm : synM s j ts2 fs3 al2 with
            | er kk a =>
              rw [hkm] at hq HCK'
              obtain ⟨i5, ts5, fs5, al5, gl5, cl5, go5, co5, ga5, ca5, rfl, hro5, hk5⟩ := hq
              have hxe : x = .er kk a := (Option.some.inj HCK').symm
              clear HCK3 HCK' hkm hmb
              go_wp2_with (with_reducible refine gate_lx (p := 5) rfl ?_; refine wp_fill (HS4.bx.kr hk5) rfl rfl rfl rfl rfl ?_; intro W6 f6 hx6; have HS6 := HS4.next hro5 hk5 f6 hx6)
              go_roundg k
              case measure => omega
              case rel => exact .inr ⟨kk, a, i5, ts5, fs5, al5, gl5, cl5, go5, co5, ga5, ca5, hxe, HS6⟩
            | ok i5 ts5 fs5 al5 =>
              rw [hkm] at hq HCK' hmb
              obtain ⟨gl5, cl5, go5, co5, ga5, ca5, rfl, hro5, hk5⟩ := hq
              obtain ⟨hc1, hc2, hc3, hc4⟩ := hmb _ _ _ _ rfl
              have HCK4 : Hid (runM s m k i5 ts5 fs5 al5 = some x) := Lib.hid HCK'
              clear HCK3 HCK' hkm hmb
              go_wp2_with (with_reducible refine gate_lx (p := 5) rfl ?_; refine wp_fill (HS4.bx.kr hk5) rfl rfl rfl rfl rfl ?_; intro W6 f6 hx6; have HS6 := HS4.next hro5 hk5 f6 hx6)
              go_roundg k
              case measure => omega
              case rel => exact .inl ⟨i5, ts5, fs5, al5, gl5, cl5, go5, co5, ga5, ca5, HCK4.out, hc1, hc2, hc3, hc4, HS6⟩
      | false =>
        rw [hin] at c3
        have HCK : Hid (contM (keyM s i ts fs f al) (runM s m k) = some x) := Lib.hid (by rw [← HRUN.out, HFS.out, runM_key k i f hin])
        clear hin
        go_wp2_with fail
        refine (rkey_any HP i hG (by omega) hi f (by omega) (by have := HLEN.out; omega) fs2 HFS HS1.ro).mono ?_
        rintro e' W2 ⟨v, rfl, hq0⟩
        have hq := KeyP.rm hq0
        have hmb := keyM_MB (s := s) i hi ts fs f al hts (by have := HLEN.out; omega) hal
        clear hq0 c3
        have HCK' := HCK.out
        cases hkm : keyM s i ts fs f al with
        | er kk a =>
          rw [hkm] at hq HCK'
          obtain ⟨i2, ts2, fs3, al2, gl2, cl2, go2, co2, ga2, ca2, rfl, hro2, hk2⟩ := hq
          have hxe : x = .er kk a := (Option.some.inj HCK').symm
          clear HCK HCK' hkm hmb
          go_wp2_with (with_reducible refine gate_lx (p := 5) rfl ?_; refine wp_fill (HS1.bx.kr hk2) rfl rfl rfl rfl rfl ?_; intro W3 f3 hx3; have HS3 := HS1.next hro2 hk2 f3 hx3)
          go_roundg k
          case measure => omega
          case rel => exact .inr ⟨kk, a, i2, ts2, fs3, al2, gl2, cl2, go2, co2, ga2, ca2, hxe, HS3⟩
        | ok i2 ts2 fs3 al2 =>
          rw [hkm] at hq HCK' hmb
          obtain ⟨gl2, cl2, go2, co2, ga2, ca2, rfl, hro2, hk2⟩ := hq
          obtain ⟨hb1, hb2, hb3, hb4⟩ := hmb _ _ _ _ rfl
          have HCK2 : Hid (runM s m k i2 ts2 fs3 al2 = some x) := Lib.hid HCK'
          clear HCK HCK' hkm hmb
          go_wp2_with (with_reducible refine gate_lx (p := 5) rfl ?_; refine wp_fill (HS1.bx.kr hk2) rfl rfl rfl rfl rfl ?_; intro W3 f3 hx3; have HS3 := HS1.next hro2 hk2 f3 hx3)
          go_roundg k
          case measure => omega
          case rel => exact .inl ⟨i2, ts2, fs3, al2, gl2, cl2, go2, co2, ga2, ca2, HCK2.out, hb1, hb2, hb3, hb4, HS3⟩
end
end Go.Proofs.YtcnhklcbibpjpaaGreatDoor
