/- Lemmas behind the laws of the tokens; no conditions. -/
import Derived.Test.YtcnhklcbibpjpaaGreatDoorZRge
import Derived.Test.YtcnhklcbibpjpaaGreatDoorZRgm
set_option linter.unusedVariables false
set_option linter.unusedSimpArgs false

namespace Go.Proofs.YtcnhklcbibpjpaaGreatDoor
open Go.RowKit P Ext PRfa
section
variable {A : World} {s : ByteArray} {m : Int} {ts : List Tk} {fs fs2 : List Fr} {al : List Nat} {gl go ga : Option Addr} {cl co ca nl no na : Nat} {w : World}
set_option maxRecDepth 100000 in
set_option maxHeartbeats 4000000 in
theorem rsyn123 (HP : ParseC) (HT : TrimC) (HI : IdentC) (hG : GlH A) (hz : s.size ≤ 90000) (i : Nat) (hi : i < s.size) (hl : ts.length ≤ 79000) (hf : fs2.length ≤ 79000) (h : RO A ts fs2 al gl cl go co ga ca w) (hc : (s[i]'hi).toNat = 123) :
    Calls Tryz.prog 33 #[lxV s m (i : Int) (.slice gl ts.length cl) (.slice go fs2.length co) 0 0 (.slice ga al.length ca)] w fun e w' =>
      ∃ v, e = .returned v ∧ RM A s m w (synM s i ts fs2 al) v w' := by
  obtain ⟨HS1, hA⟩ := boxes_sb (s := s) (m := m) true i h
  have eS1 : IntKind.i64.wrap (((i : Nat) : Int) + 1) = ((i : Nat) : Int) + 1 := by rw [IntWalk.i64_in _ (by omega)]
  have hi' : (i : Int) < s.size := by omega
  have hi0 : (0 : Int) ≤ (i : Int) := by omega
  have HB8 := Lib.hid (b8_at s i hi)
  have HR : Hid (synM s i ts fs2 al = argM s i ts fs2 al) := Lib.hid (by rw [synM, if_pos (HB8.out.trans hc)])
  have e1 : (((s[i]'hi).toNat : Int) == 123) = true := by simp; omega
  go_enter Tryz.func33, Tryz.ntmps33
  go_wp2_with fail
  refine (?_ : Calls _ _ _ (boxes s m (i : Int) (.slice gl ts.length cl) (.slice go fs2.length co) 0 0 (.slice ga al.length ca) w) _)
  generalize (boxes s m (i : Int) (.slice gl ts.length cl) (.slice go fs2.length co) 0 0 (.slice ga al.length ca) w) = W1 at *
  refine (rarg_any HP HT HI i hG hz hi (by omega) (by omega) HS1.ro).mono ?_
  rintro e' W60 ⟨v, rfl, hq⟩
  have hm := hq.kr HS1.kr
  obtain ⟨s', m', i', gl', go', ga', nl', cl', no', co', na', ca', ee', aa', hv, hkv⟩ := hq.val
  subst hv
  go_wp2_with (with_reducible refine gate_lx (p := 2) rfl ?_; refine wp_fill (HS1.rb.kr hkv) rfl rfl rfl rfl rfl ?_; intro W61 f61 hr61)
  refine bodyPost_ret (bx_ret rfl rfl hr61) rfl ?_
  refine ⟨_, rfl, ?_⟩
  rw [HR.out]
  exact hm.fl (HS1.rb.kr hkv) f61 (by omega) (by omega)
set_option maxRecDepth 100000 in
set_option maxHeartbeats 4000000 in
theorem rsyn35 (hG : GlH A) (hz : s.size ≤ 90000) (i : Nat) (hi : i < s.size) (hl : ts.length ≤ 79000) (hf : fs2.length ≤ 79000) (h : RO A ts fs2 al gl cl go co ga ca w) (hc : (s[i]'hi).toNat = 35) :
    Calls Tryz.prog 33 #[lxV s m (i : Int) (.slice gl ts.length cl) (.slice go fs2.length co) 0 0 (.slice ga al.length ca)] w fun e w' =>
      ∃ v, e = .returned v ∧ RM A s m w (synM s i ts fs2 al) v w' := by
  obtain ⟨HS1, hA⟩ := boxes_sb (s := s) (m := m) true i h
  have eS1 : IntKind.i64.wrap (((i : Nat) : Int) + 1) = ((i : Nat) : Int) + 1 := by rw [IntWalk.i64_in _ (by omega)]
  have hi' : (i : Int) < s.size := by omega
  have hi0 : (0 : Int) ≤ (i : Int) := by omega
  have HB8 := Lib.hid (b8_at s i hi)
  have HR : Hid (synM s i ts fs2 al = .ok (i + 1) (ts ++ [(2, (⟨#[]⟩ : ByteArray), ((i : Nat) : Int))]) fs2 al) := Lib.hid (by rw [synM, if_neg (by rw [HB8.out]; omega), if_pos (HB8.out.trans hc)])
  have e1 : (((s[i]'hi).toNat : Int) == 123) = false := by simp; omega
  have e2 : (((s[i]'hi).toNat : Int) == 35) = true := by simp; omega
  go_enter Tryz.func33, Tryz.ntmps33
  go_wp2_with fail
  refine (?_ : Calls _ _ _ (boxes s m (i : Int) (.slice gl ts.length cl) (.slice go fs2.length co) 0 0 (.slice ga al.length ca) w) _)
  generalize (boxes s m (i : Int) (.slice gl ts.length cl) (.slice go fs2.length co) 0 0 (.slice ga al.length ca) w) = W1 at *
  have d0 : True := trivial
  have d1 : True := trivial
  have d2 : True := trivial
  have d3 : True := trivial
  have d4 : True := trivial
  have d5 : True := trivial
  have d6 : True := trivial
  have d7 : True := trivial
  have df : True := trivial
  have hput := rput_any (s := s) (m := m) (i : Nat) 2 (⟨#[]⟩ : ByteArray) (i : Nat) HS1.ro (by omega)
  generalize hts2 : ts ++ [(2, (⟨#[]⟩ : ByteArray), ((i : Nat) : Int))] = ts2 at hput
  have hl2 : ts2.length ≤ 79001 := by rw [← hts2]; simp; omega
  have Hts2 := Lib.hid hts2
  clear hts2
  refine hput.mono ?_
  clear hput
  rintro e' W2 ⟨v, rfl, gl2, cl2, go2, co2, ga2, ca2, rfl, hro2, hk2⟩
  go_wp2_with (first
    | (with_reducible refine gate_lx (p := 1) rfl ?_; refine wp_fill (HS1.bx.kr hk2) rfl rfl rfl rfl rfl ?_; intro W3 f3 hx3; have HS3 := HS1.next hA (Nat.le_refl _) hro2 hk2.mono f3 hx3; clear d0 d1 d2 d3 d4 d5 d6 d7 df; obtain ⟨d0, d1, d2, d3, d4, d5, d6, d7⟩ := HS3.bx.cells; have df := HS3.bx.free; have HS4 : SB true A w w.heap.size s m ((i + 1 : Nat) : Int) ts2 fs2 al gl2 cl2 go2 co2 ga2 ca2 (W3.setCell ⟨w.heap.size, 2, none⟩ (.int .i64 ((i : Int) + 1))) := (HS3.set2 hA (Nat.le_refl _) ((i : Int) + 1)).cast (by omega))
    | (with_reducible refine gate_lx (p := 2) rfl ?_; refine wp_fill (HS4.rb) rfl rfl rfl rfl rfl ?_; intro W5 f5 hr5))
  refine bodyPost_ret (bx_ret rfl rfl hr5) rfl ?_
  refine ⟨_, rfl, ?_⟩
  rw [HR.out, Hts2.out]
  exact ⟨gl2, cl2, go2, co2, ga2, ca2, rfl, HS4.ro.fl HS4.rb f5 (by omega), HS4.kr.fl f5 (by omega)⟩
set_option maxRecDepth 100000 in
set_option maxHeartbeats 4000000 in
theorem rsyn124 (HP : ParseC) (hG : GlH A) (hz : s.size ≤ 90000) (i : Nat) (hi : i < s.size) (hl : ts.length ≤ 79000) (hf : fs2.length ≤ 79000) (h : RO A ts fs2 al gl cl go co ga ca w) (f : Fr) (hfs : Hid (fs2 = fs ++ [f])) (hc : (s[i]'hi).toNat = 124) :
    Calls Tryz.prog 33 #[lxV s m (i : Int) (.slice gl ts.length cl) (.slice go fs2.length co) 0 0 (.slice ga al.length ca)] w fun e w' =>
      ∃ v, e = .returned v ∧ RM A s m w (synM s i ts fs2 al) v w' := by
  obtain ⟨HS1, hA⟩ := boxes_sb (s := s) (m := m) true i h
  have eS1 : IntKind.i64.wrap (((i : Nat) : Int) + 1) = ((i : Nat) : Int) + 1 := by rw [IntWalk.i64_in _ (by omega)]
  have hi' : (i : Int) < s.size := by omega
  have hi0 : (0 : Int) ≤ (i : Int) := by omega
  have HB8 := Lib.hid (b8_at s i hi)
  have hlast : fs2.getLast? = some f := by rw [hfs.out]; simp
  have hdrop : fs2.dropLast = fs := by rw [hfs.out]; simp
  have HR : Hid (synM s i ts fs2 al = (limF s f.2.2.1 (i + 1)).mr (ts ++ [(12, (⟨#[]⟩ : ByteArray), ((i : Nat) : Int))]) (fs ++ [(f.1, f.2.1, f.2.2.1, true, 0)]) al) := Lib.hid (by rw [synM, if_neg (by rw [HB8.out]; omega), if_neg (by rw [HB8.out]; omega), hlast]; simp only; rw [if_pos (HB8.out.trans hc), hdrop])
  clear hlast hdrop
  have e1 : (((s[i]'hi).toNat : Int) == 123) = false := by simp; omega
  have e2 : (((s[i]'hi).toNat : Int) == 35) = false := by simp; omega
  have e3 : (((s[i]'hi).toNat : Int) == 124) = true := by simp; omega
  go_enter Tryz.func33, Tryz.ntmps33
  go_wp2_with fail
  refine (?_ : Calls _ _ _ (boxes s m (i : Int) (.slice gl ts.length cl) (.slice go fs2.length co) 0 0 (.slice ga al.length ca) w) _)
  generalize (boxes s m (i : Int) (.slice gl ts.length cl) (.slice go fs2.length co) 0 0 (.slice ga al.length ca) w) = W1 at *
  have d0 : True := trivial
  have d1 : True := trivial
  have d2 : True := trivial
  have d3 : True := trivial
  have d4 : True := trivial
  have d5 : True := trivial
  have d6 : True := trivial
  have d7 : True := trivial
  have df : True := trivial
  have hput := rput_any (s := s) (m := m) (i : Nat) 12 (⟨#[]⟩ : ByteArray) (i : Nat) HS1.ro (by omega)
  generalize hts2 : ts ++ [(12, (⟨#[]⟩ : ByteArray), ((i : Nat) : Int))] = ts2 at hput
  have hl2 : ts2.length ≤ 79001 := by rw [← hts2]; simp; omega
  have Hts2 := Lib.hid hts2
  clear hts2
  refine hput.mono ?_
  clear hput
  rintro e' W2 ⟨v, rfl, gl2, cl2, go2, co2, ga2, ca2, rfl, hro2, hk2⟩
  go_wp2_with (with_reducible refine gate_lx (p := 1) rfl ?_; refine wp_fill (HS1.bx.kr hk2) rfl rfl rfl rfl rfl ?_; intro W3 f3 hx3; have HS3 := HS1.next hA (Nat.le_refl _) hro2 hk2.mono f3 hx3; clear d0 d1 d2 d3 d4 d5 d6 d7 df; obtain ⟨d0, d1, d2, d3, d4, d5, d6, d7⟩ := HS3.bx.cells; have df := HS3.bx.free; have HS4 : SB true A w w.heap.size s m ((i + 1 : Nat) : Int) ts2 fs2 al gl2 cl2 go2 co2 ga2 ca2 (W3.setCell ⟨w.heap.size, 2, none⟩ (.int .i64 ((i : Int) + 1))) := (HS3.set2 hA (Nat.le_refl _) ((i : Int) + 1)).cast (by omega))
  have hfl : fs.length ≤ 90000 := by have := congrArg List.length hfs.out; rw [List.length_append] at this; omega
  refine (rlimit_any HP (i + 1) hG hz (by omega) f (by omega) hfl fs2 hfs HS4.ro).mono ?_
  rintro e' W60 ⟨v, rfl, hq1⟩
  have hq := RQ.rm hq1
  have hm := hq.kr HS4.kr
  obtain ⟨s', m', i', gl', go', ga', nl', cl', no', co', na', ca', ee', aa', hv, hkv⟩ := hq.val
  subst hv
  go_wp2_with (with_reducible refine gate_lx (p := 2) rfl ?_; refine wp_fill (HS4.rb.kr hkv) rfl rfl rfl rfl rfl ?_; intro W61 f61 hr61)
  refine bodyPost_ret (bx_ret rfl rfl hr61) rfl ?_
  refine ⟨_, rfl, ?_⟩
  rw [HR.out, Hts2.out]
  exact hm.fl (HS4.rb.kr hkv) f61 (by omega) (by omega)
set_option maxRecDepth 100000 in
set_option maxHeartbeats 4000000 in
theorem rsyn125 (hG : GlH A) (hz : s.size ≤ 90000) (i : Nat) (hi : i < s.size) (hl : ts.length ≤ 79000) (hf : fs2.length ≤ 79000) (h : RO A ts fs2 al gl cl go co ga ca w) (f : Fr) (hfs : Hid (fs2 = fs ++ [f])) (hc : ¬ (s[i]'hi).toNat = 123 ∧ ¬ (s[i]'hi).toNat = 35 ∧ ¬ (s[i]'hi).toNat = 124) :
    Calls Tryz.prog 33 #[lxV s m (i : Int) (.slice gl ts.length cl) (.slice go fs2.length co) 0 0 (.slice ga al.length ca)] w fun e w' =>
      ∃ v, e = .returned v ∧ RM A s m w (synM s i ts fs2 al) v w' := by
  obtain ⟨HS0, hA⟩ := boxes_sb (s := s) (m := m) true i h
  have eS1 : IntKind.i64.wrap (((i : Nat) : Int) + 1) = ((i : Nat) : Int) + 1 := by rw [IntWalk.i64_in _ (by omega)]
  have hi' : (i : Int) < s.size := by omega
  have hi0 : (0 : Int) ≤ (i : Int) := by omega
  have HB8 := Lib.hid (b8_at s i hi)
  have hlast : fs2.getLast? = some f := by rw [hfs.out]; simp
  have hdrop : fs2.dropLast = fs := by rw [hfs.out]; simp
  have HR : Hid (synM s i ts fs2 al = if f.1 = 2 then .ok (i + 1) (ts ++ [(4, (⟨#[]⟩ : ByteArray), ((i : Nat) : Int))]) fs al else .ok (i + 1) (ts ++ [(4, (⟨#[]⟩ : ByteArray), ((i : Nat) : Int))]) (fs ++ [(f.1, f.2.1, f.2.2.1, false, -1)]) al) := Lib.hid (by rw [synM, if_neg (by rw [HB8.out]; omega), if_neg (by rw [HB8.out]; omega), hlast]; simp only; rw [if_neg (by rw [HB8.out]; omega), hdrop])
  clear hlast hdrop
  have e1 : (((s[i]'hi).toNat : Int) == 123) = false := by simp; omega
  have e2 : (((s[i]'hi).toNat : Int) == 35) = false := by simp; omega
  have e3 : (((s[i]'hi).toNat : Int) == 124) = false := by simp; omega
  clear hc
  have hsz : (boxes s m (i : Int) (.slice gl ts.length cl) (.slice go fs2.length co) 0 0 (.slice ga al.length ca) w).heap.size = w.heap.size + 1 + 1 := by simp [boxes]
  obtain ⟨g, rfl, hg, hgA, ⟨cur, hcur⟩, c0, c1, c2, c3, c4⟩ := (hfs.out ▸ h : RO A ts (fs ++ [f]) al gl cl go co ga ca w).top
  have hlen : fs2.length = fs.length + 1 := by rw [hfs.out]; simp
  have w1 : IntKind.i64.wrap ((fs2.length : Int) - 1) = (fs.length : Int) := by rw [IntWalk.i64_in _ (by omega)]; omega
  have w2 : (fs.length : Int) < fs2.length := by omega
  have HLEN := Lib.hid hlen
  have b0 : ∀ o1 o2 : Obj, ((w.alloc o1).alloc o2).heap[g]? = w.heap[g]? := fun o1 o2 => by
    rw [Below.heap_alloc _ o2 g (by simp; omega), Below.heap_alloc w o1 g hg]
  have q0 : ∀ o1 o2 : Obj, ((w.alloc o1).alloc o2).cell? ⟨g, fs.length * 5, none⟩ = some (.int .i64 f.1) := fun o1 o2 => (World.cell?_of_block (b0 o1 o2)).trans c0
  have q1 : ∀ o1 o2 : Obj, ((w.alloc o1).alloc o2).cell? ⟨g, fs.length * 5 + 1, none⟩ = some (.bool f.2.1) := fun o1 o2 => (World.cell?_of_block (b0 o1 o2)).trans c1
  have q2 : ∀ o1 o2 : Obj, ((w.alloc o1).alloc o2).cell? ⟨g, fs.length * 5 + 2, none⟩ = some (.int .i64 f.2.2.1) := fun o1 o2 => (World.cell?_of_block (b0 o1 o2)).trans c2
  have q3 : ∀ o1 o2 : Obj, ((w.alloc o1).alloc o2).cell? ⟨g, fs.length * 5 + 3, none⟩ = some (.bool f.2.2.2.1) := fun o1 o2 => (World.cell?_of_block (b0 o1 o2)).trans c3
  have q4 : ∀ o1 o2 : Obj, ((w.alloc o1).alloc o2).cell? ⟨g, fs.length * 5 + 4, none⟩ = some (.int .i64 f.2.2.2.2) := fun o1 o2 => (World.cell?_of_block (b0 o1 o2)).trans c4
  have hFn := World.alloc_heap_new (boxes s m (i : Int) (.slice gl ts.length cl) (.slice (some ⟨g, 0, none⟩) fs2.length co) 0 0 (.slice ga al.length ca) w) (.cells #[.int .i64 f.1, .bool f.2.1, .int .i64 f.2.2.1, .bool f.2.2.2.1, .int .i64 f.2.2.2.2] 65)
  rw [hsz] at hFn
  have hF1 : FX (w.heap.size + 1 + 1) f ((boxes s m (i : Int) (.slice gl ts.length cl) (.slice (some ⟨g, 0, none⟩) fs2.length co) 0 0 (.slice ga al.length ca) w).alloc (.cells #[.int .i64 f.1, .bool f.2.1, .int .i64 f.2.2.1, .bool f.2.2.2.1, .int .i64 f.2.2.2.2] 65)) := hFn
  have HS1 := HS0.later ((Below.refl _ _).alloc (Nat.le_refl _) (.cells #[.int .i64 f.1, .bool f.2.1, .int .i64 f.2.2.1, .bool f.2.2.2.1, .int .i64 f.2.2.2.2] 65))
  clear HS0 hsz hFn hlen
  go_enter Tryz.func33, Tryz.ntmps33
  go_wp2_with fail
  refine (?_ : Calls _ _ _ ((boxes s m (i : Int) (.slice gl ts.length cl) (.slice (some ⟨g, 0, none⟩) fs2.length co) 0 0 (.slice ga al.length ca) w).alloc (.cells #[.int .i64 f.1, .bool f.2.1, .int .i64 f.2.2.1, .bool f.2.2.2.1, .int .i64 f.2.2.2.2] 65)) _)
  generalize ((boxes s m (i : Int) (.slice gl ts.length cl) (.slice (some ⟨g, 0, none⟩) fs2.length co) 0 0 (.slice ga al.length ca) w).alloc (.cells #[.int .i64 f.1, .bool f.2.1, .int .i64 f.2.2.1, .bool f.2.2.2.1, .int .i64 f.2.2.2.2] 65)) = W1 at *
  clear q0 q1 q2 q3 q4 b0 c0 c1 c2 c3 c4
  have d0 : True := trivial
  have d1 : True := trivial
  have d2 : True := trivial
  have d3 : True := trivial
  have d4 : True := trivial
  have d5 : True := trivial
  have d6 : True := trivial
  have d7 : True := trivial
  have df : True := trivial
  have k0 : True := trivial
  have k1 : True := trivial
  have k2 : True := trivial
  have k3 : True := trivial
  have k4 : True := trivial
  have hcl := rcloses_any (s := s) (m := m) ((i : Nat) : Int) HS1.ro (by omega) (by omega) (by omega)
  generalize hts : ts ++ [(4, (⟨#[]⟩ : ByteArray), ((i : Nat) : Int))] = ts2 at hcl
  have hl2 : ts2.length ≤ 79001 := by rw [← hts]; simp; omega
  have HTS := Lib.hid hts
  clear hts
  refine hcl.mono ?_
  rintro e' W5 ⟨v, rfl, gl5, cl5, go5, co5, ga5, ca5, rfl, hro5, hk5⟩
  obtain ⟨hcap, g5, rfl⟩ := RO.capFr (f := f) (fs := fs) (by have := hro5; rw [hfs.out] at this; exact this)
  rw [← hfs.out] at hcap
  have hcap2 : fs.length ≤ co5 := by have := HLEN.out; omega
  by_cases hf2 : f.1 = 2
  · have ef : (f.1 == 2) = true := by simpa using hf2
    rw [if_pos hf2] at HR
    clear hf2
    go_wp2_with (first
      | (with_reducible refine gate_lx (p := 1) rfl ?_; refine wp_fill (HS1.bx.kr hk5) rfl rfl rfl rfl rfl ?_; intro W6 f6 hx6; have HS6 := HS1.next hA (Nat.le_refl _) hro5 hk5.mono f6 hx6; clear d0 d1 d2 d3 d4 d5 d6 d7 df; obtain ⟨d0, d1, d2, d3, d4, d5, d6, d7⟩ := HS6.bx.cells; have df := HS6.bx.free; have hF6 := (hF1.kr hk5).fl f6 (by omega); clear k0 k1 k2 k3 k4; obtain ⟨k0, k1, k2, k3, k4⟩ := hF6.cells)
      | (with_reducible refine gate_lx (p := 2) rfl ?_; refine wp_fill (HS6.rb.other (by omega) 4 (.slice (some ⟨g5, 0, none⟩) fs.length co5)) rfl rfl rfl rfl rfl ?_; intro W7 f7 hr7))
    refine bodyPost_ret (bx_ret rfl rfl hr7) rfl ?_
    refine ⟨_, rfl, ?_⟩
    rw [HR.out, HTS.out]
    have hpop : RO A ts2 fs al gl5 cl5 (some ⟨g5, 0, none⟩) co5 ga5 ca5 W6 := RO.pop (f := f) (by have := HS6.ro; rw [hfs.out] at this; exact this)
    exact ⟨gl5, cl5, _, co5, ga5, ca5, by simp, (hpop.bx HS6.bx hA 4 _).fl (HS6.rb.other (by omega) 4 _) f7 (by omega), (HS6.kr.set (Nat.le_refl _) 4 _).fl f7 (by omega)⟩
  · have ef : (f.1 == 2) = false := by simpa using hf2
    rw [if_neg hf2] at HR
    clear hf2
    go_wp2_with (with_reducible refine gate_lx (p := 1) rfl ?_; refine wp_fill (HS1.bx.kr hk5) rfl rfl rfl rfl rfl ?_; intro W6 f6 hx6; have HS6 := HS1.next hA (Nat.le_refl _) hro5 hk5.mono f6 hx6; clear d0 d1 d2 d3 d4 d5 d6 d7 df; obtain ⟨d0, d1, d2, d3, d4, d5, d6, d7⟩ := HS6.bx.cells; have df := HS6.bx.free; have hF6 := (hF1.kr hk5).fl f6 (by omega); clear k0 k1 k2 k3 k4; obtain ⟨k0, k1, k2, k3, k4⟩ := hF6.cells)
    have hro6 : RO A ts2 (fs ++ [f]) al gl5 cl5 (some ⟨g5, 0, none⟩) co5 ga5 ca5 W6 := by have := HS6.ro; rw [hfs.out] at this; exact this
    have hin := rinside_any (s := s) (m := m) (i + 1) (-1) (f := f) (by have := HLEN.out; omega) hro6
    rw [← HLEN.out] at hin
    refine hin.mono ?_
    rintro e' W8 ⟨v, rfl, gl8, cl8, go8, co8, ga8, ca8, rfl, hro8, hk8⟩
    go_wp2_with (with_reducible refine gate_lx (p := 2) rfl ?_; refine wp_fill (HS6.rb.kr hk8) rfl rfl rfl rfl rfl ?_; intro W9 f9 hr9)
    refine bodyPost_ret (bx_ret rfl rfl hr9) rfl ?_
    refine ⟨_, rfl, ?_⟩
    rw [HR.out, HTS.out]
    exact ⟨gl8, cl8, go8, co8, ga8, ca8, by rw [List.length_append, List.length_singleton]; rfl, hro8.fl (HS6.rb.kr hk8) f9 (by omega), (HS6.kr.trans hk8).fl f9 (by omega)⟩
theorem rsyn_any (HP : ParseC) (HT : TrimC) (HI : IdentC) (hG : GlH A) (hz : s.size ≤ 90000) (i : Nat) (hi : i < s.size) (hl : ts.length ≤ 79000) (hf : fs2.length ≤ 79000) (h : RO A ts fs2 al gl cl go co ga ca w) (hok : P.b8 s i = 123 ∨ P.b8 s i = 35 ∨ fs2 ≠ []) :
    Calls Tryz.prog 33 #[lxV s m (i : Int) (.slice gl ts.length cl) (.slice go fs2.length co) 0 0 (.slice ga al.length ca)] w fun e w' =>
      ∃ v, e = .returned v ∧ RM A s m w (synM s i ts fs2 al) v w' := by
  have h8 := b8_at s i hi
  by_cases h1 : (s[i]'hi).toNat = 123
  · exact rsyn123 HP HT HI hG hz i hi hl hf h h1
  by_cases h2 : (s[i]'hi).toNat = 35
  · exact rsyn35 hG hz i hi hl hf h h2
  have hne : fs2 ≠ [] := by
    rcases hok with e | e | e
    · omega
    · omega
    · exact e
  obtain ⟨fs, f, hfs⟩ : ∃ fs f, fs2 = fs ++ [f] := by
    rcases List.eq_nil_or_concat fs2 with e | ⟨a, b, e⟩
    · exact absurd e hne
    · exact ⟨a, b, by rw [e, List.concat_eq_append]⟩
  by_cases h3 : (s[i]'hi).toNat = 124
  · exact rsyn124 HP hG hz i hi hl hf h f (Lib.hid hfs) h3
  · exact rsyn125 hG hz i hi hl hf h f (Lib.hid hfs) ⟨h1, h2, h3⟩
end
end Go.Proofs.YtcnhklcbibpjpaaGreatDoor
