/- Lemmas behind the laws of messages; no conditions. -/
import Derived.Test.YtcpglgoiienhkaaGreatDoorProg
import Derived.Shelf.Strings.BuilderK
import Derived.WalkKit
import Derived.Deep.DeepMust
import Derived.Outline
import GoSem.Core.Utf8
import Derived.Laws.RangeAny
import Derived.Test.YtcpglgoiienhkaaGreatDoorZShelf
import Derived.WalkSmall
import Derived.Lib.RuneCountTail
import Derived.Lib.LaidU8
set_option linter.unusedVariables false
set_option linter.unusedSimpArgs false

namespace Go.Proofs.YtcpglgoiienhkaaGreatDoor
open Go.RowKit Go.Shelf
theorem sizeBld : (Tryz.prog.info? 63).map (·.size) = some 2 := by kernel_rfl
theorem liesBld : liesAt Tryz.prog Tryz.prog.depth 63 (2 / Tryz.prog.cellsOf 63) 0 63 1 = true := by kernel_rfl
theorem infoU8 : (Tryz.prog.info? 5).map (fun i => (i.zero, i.size, i.bytes)) = some (some (.int .u8 0), 1, 1) := by kernel_rfl
set_option maxHeartbeats 1000000 in
set_option maxRecDepth 100000 in
theorem copyCheck_used (b : Nat) (w : World) (h0 : w.cell? ⟨b, 0, none⟩ = some (.pointer (some ⟨b, 0, none⟩))) :
    Calls Tryz.prog 87 #[.pointer (some ⟨b, 0, none⟩)] w fun e w' => e = .returned (.tuple #[]) ∧ w' = w := by
  obtain ⟨j, hj, _⟩ := Option.map_eq_some_iff.1 sizeBld
  go_enter Tryz.func87, Tryz.ntmps87
  go_wp2
  rw [Lib.run_neq_ptr_same w _ Tryz.underlying61 hj]
  go_wp2
  go_end0
  exact ⟨rfl, rfl⟩
set_option maxHeartbeats 1000000 in
set_option maxRecDepth 100000 in
theorem copyCheck_fresh (b : Nat) (w : World) (h0 : w.cell? ⟨b, 0, none⟩ = some (.pointer none)) (hsh : w.shape? b = some (63, 2)) (hfz : w.frozen? ⟨b, 0, none⟩ = false) :
    Calls Tryz.prog 87 #[.pointer (some ⟨b, 0, none⟩)] w fun e w' => e = .returned (.tuple #[]) ∧ w' = w.setCell ⟨b, 0, none⟩ (.pointer (some ⟨b, 0, none⟩)) := by
  obtain ⟨j, hj, hjs⟩ := Option.map_eq_some_iff.1 sizeBld
  go_enter Tryz.func87, Tryz.ntmps87
  go_wp2
  rw [Lib.run_to_unsafe w ⟨b, 0, none⟩ Tryz.underlying61 Tryz.underlying147 hj (by rw [hjs]; decide) hsh (Nat.zero_lt_succ 1)]
  simp only [Result.andThen]
  rw [Oper.upon_value]
  go_wp2
  rw [run_callFunc_extern Tryz.func107 (by kernel_rfl) (by kernel_rfl) (by kernel_rfl) (e := Extern.AbiNoEscape.same) (by kernel_rfl)]
  rw [Lib.run_noEscape]
  simp only [Result.andThen]
  rw [Oper.upon_value]
  go_wp2
  rw [Lib.run_from_unsafe w ⟨b, 0, none⟩ Tryz.underlying147 Tryz.underlying61 hj hsh liesBld]
  simp only [Result.andThen]
  rw [Oper.upon_value]
  go_wp2
  go_end0
  exact ⟨rfl, rfl⟩
theorem copyCheck_k (B b : Nat) (bs : List Value) (w : World) (h : Lib.IsBuilderF 63 5 B b bs w) :
    Calls Tryz.prog 87 #[.pointer (some ⟨b, 0, none⟩)] w fun e w' => e = .returned (.tuple #[]) ∧ (Lib.BuilderAtF 63 5 B b (.pointer (some ⟨b, 0, none⟩)) bs w' ∧ Below B w w' ∧ Lib.OthersKept 5 (some b) w w') := by
  rcases h with h | h
  · refine (copyCheck_fresh b w h.cell0 h.shape h.frozen0).mono ?_
    rintro e w' ⟨rfl, rfl⟩
    exact ⟨rfl, h.used _, (Below.refl B w).setCell (p := ⟨b, 0, none⟩) h.1 _, (Lib.OthersKept.refl _ _ w).setCell ⟨b, 0, none⟩ rfl _⟩
  · refine (copyCheck_used b w h.cell0).mono ?_
    rintro e w' ⟨rfl, rfl⟩
    exact ⟨rfl, h, Below.refl B _, Lib.OthersKept.refl _ _ _⟩
set_option maxHeartbeats 2000000 in
set_option maxRecDepth 100000 in
theorem WriteByte_k (B b : Nat) (bs : List Value) (c : Int) (w : World) (h : Lib.IsBuilderF 63 5 B b bs w) (hlen : bs.length + 1 ≤ 140737488355328) (hBw : B ≤ w.heap.size) :
    Calls Tryz.prog 62 #[.pointer (some ⟨b, 0, none⟩), .int .u8 c] w fun e w' => e = .returned .nilIface ∧ (Lib.BuilderAtF 63 5 B b (.pointer (some ⟨b, 0, none⟩)) (bs ++ [.int .u8 c]) w' ∧ Below B w w' ∧ Lib.OthersKept 5 (some b) w w') := by
  obtain ⟨i0, hi, hz0, hz1, hz2⟩ := info_parts infoU8
  go_enter Tryz.func62, Tryz.ntmps62
  go_wp2_with (go_at_call 87; refine (copyCheck_k B b bs _ h).mono ?_)
  rintro e w1 ⟨rfl, h1, hb1, hk1⟩
  obtain ⟨hB, v, hbk, hown, hne⟩ := h1
  have c0 : w1.cell? ⟨b, 0, none⟩ = some (.pointer (some ⟨b, 0, none⟩)) := by rw [Lib.cell_of_heap hbk]; rfl
  have c1 : w1.cell? ⟨b, 1, none⟩ = some v := by rw [Lib.cell_of_heap hbk]; rfl
  go_wp2_with (at_builtin; refine wpList_append_ownF _ rfl _ _ 39 rfl B 5 i0 (.int .u8 0) 1 1 Tryz.underlying39 hi hz0 hz1 hz2 rfl (by decide) _ _ _ rfl (hown.alloc _) ⟨w1.heap.size, 0, none⟩ 1 1 [.int .u8 c] rfl rfl ?c1 ?c2 ?c3 ?c4 ?c5 ?_)
  case c1 =>
    intro j u hj
    match j, hj with
    | 0, hj => simp at hj; subst hj; simp [Addr.add]
  case c2 => intro u hu; simp at hu; subst hu; rfl
  case c3 => unfold maxLen; omega
  case c4 => omega
  case c5 => have := hb1.size; simp; omega
  intro v' w2 hown' hgrow _
  have hlt : b < w1.heap.size := by
    rcases Nat.lt_or_ge b w1.heap.size with h' | h'
    · exact h'
    · simp [Array.getElem?_eq_none h'] at hbk
  have hb2 : w2.heap[b]? = some (.cells #[.pointer (some ⟨b, 0, none⟩), v] 63 (0, 0)) := by
    rw [hgrow.block b (by simp; omega) (fun e => hne e.symm), Lib.alloc_old w1 _ b hlt]
    exact hbk
  have d0 : w2.cell? ⟨b, 0, none⟩ = some (.pointer (some ⟨b, 0, none⟩)) := by rw [Lib.cell_of_heap hb2]; rfl
  have d1 : w2.cell? ⟨b, 1, none⟩ = some v := by rw [Lib.cell_of_heap hb2]; rfl
  have f1 : w2.frozen? ⟨b, 1, none⟩ = false := Lib.frozen_of_heap hb2 1
  obtain ⟨g, cap, rfl⟩ : ∃ g cap, v' = .slice (some ⟨g, 0, none⟩) (bs.length + 1) cap := by
    rcases hown'.2 with ⟨_, h0⟩ | ⟨g, cap, cur, fz, hv, _⟩
    · omega
    · exact ⟨g, cap, hv⟩
  go_wp2
  go_ret
  refine ⟨rfl, ?_, ?_, ((hk1.alloc _).grown hgrow (Lib.ownsRowF_kind (hown.alloc _))).setCell ⟨b, 1, none⟩ rfl _⟩
  · exact Lib.BuilderAtF.put (T := 63) (e := 5) hB hb2 (bs' := bs ++ [.int .u8 c]) (by simpa using hown') (by decide)
  · exact ((hb1.alloc (by have := hb1.size; omega) _).grown hgrow (by have := hb1.size; simp; omega) (fun k hk => (hown.lt k hk).1)).setCell (p := ⟨b, 1, none⟩) hB _
set_option maxHeartbeats 2000000 in
set_option maxRecDepth 100000 in
theorem WriteString_k (B b : Nat) (bs : List Value) (s : ByteArray) (w : World) (h : Lib.IsBuilderF 63 5 B b bs w) (hlen : bs.length + s.size ≤ 140737488355328) (hBw : B ≤ w.heap.size) :
    Calls Tryz.prog 61 #[.pointer (some ⟨b, 0, none⟩), .string s] w fun e w' => e = .returned (.tuple #[.int .i64 s.size, .nilIface]) ∧ (Lib.BuilderAtF 63 5 B b (.pointer (some ⟨b, 0, none⟩)) (bs ++ Lib.strCells s) w' ∧ Below B w w' ∧ Lib.OthersKept 5 (some b) w w') := by
  obtain ⟨i0, hi, hz0, hz1, hz2⟩ := info_parts infoU8
  go_enter Tryz.func61, Tryz.ntmps61
  go_wp2_with (go_at_call 87; refine (copyCheck_k B b bs _ h).mono ?_)
  rintro e w1 ⟨rfl, h1, hb1, hk1⟩
  obtain ⟨hB, v, hbk, hown, hne⟩ := h1
  have c0 : w1.cell? ⟨b, 0, none⟩ = some (.pointer (some ⟨b, 0, none⟩)) := by rw [Lib.cell_of_heap hbk]; rfl
  have c1 : w1.cell? ⟨b, 1, none⟩ = some v := by rw [Lib.cell_of_heap hbk]; rfl
  go_wp2_with (at_builtin; refine Lib.wpList_append_own_stringF _ rfl _ _ 39 9 rfl B 5 i0 Tryz.underlying39 Tryz.underlying9 hi hz0 hz1 hz2 _ _ _ rfl hown s rfl ?c3 ?c4 ?c5 ?_)
  case c3 => unfold maxLen; omega
  case c4 => omega
  case c5 => have := hb1.size; omega
  intro v' w2 hown' hgrow _
  have hlt : b < w1.heap.size := by
    rcases Nat.lt_or_ge b w1.heap.size with h' | h'
    · exact h'
    · simp [Array.getElem?_eq_none h'] at hbk
  have hb2 : w2.heap[b]? = some (.cells #[.pointer (some ⟨b, 0, none⟩), v] 63 (0, 0)) := by
    rw [hgrow.block b hlt (fun e => hne e.symm)]
    exact hbk
  have d0 : w2.cell? ⟨b, 0, none⟩ = some (.pointer (some ⟨b, 0, none⟩)) := by rw [Lib.cell_of_heap hb2]; rfl
  have d1 : w2.cell? ⟨b, 1, none⟩ = some v := by rw [Lib.cell_of_heap hb2]; rfl
  have f1 : w2.frozen? ⟨b, 1, none⟩ = false := Lib.frozen_of_heap hb2 1
  obtain ⟨ao, n', cap, rfl⟩ : ∃ ao n' cap, v' = .slice ao n' cap := by
    rcases hown'.2 with ⟨hv, _⟩ | ⟨g, cap, cur, fz, hv, _⟩
    · exact ⟨_, _, _, hv⟩
    · exact ⟨_, _, _, hv⟩
  go_wp2
  go_ret2
  refine ⟨rfl, ?_, ?_, (hk1.grown hgrow (Lib.ownsRowF_kind hown)).setCell ⟨b, 1, none⟩ rfl _⟩
  · exact Lib.BuilderAtF.put (T := 63) (e := 5) hB hb2 (bs' := bs ++ Lib.strCells s) (by simpa [Lib.strCells_length] using hown') (by decide)
  · exact (hb1.grown hgrow (by have := hb1.size; omega) (fun k hk => (hown.lt k hk).1)).setCell (p := ⟨b, 1, none⟩) hB _
end Go.Proofs.YtcpglgoiienhkaaGreatDoor
namespace Go.Proofs.YtcpglgoiienhkaaGreatDoor.P
def b8 (s : ByteArray) (i : Nat) : Nat := if h : i < s.size then (s[i]'h).toNat else 0
theorem b8_at (s : ByteArray) (i : Nat) (h : i < s.size) : b8 s i = (s[i]'h).toNat := by simp [b8, h]
theorem b8_lt (s : ByteArray) (i : Nat) : b8 s i < 256 := by
  unfold b8; split
  · exact UInt8.toNat_lt _
  · omega
theorem width_pos (s : ByteArray) (pos : Nat) (h : pos < s.size) : 1 ≤ (Utf8.decode s pos).2 := by
  simp only [Utf8.decode]
  repeat' split
  all_goals simp
def spB (r : Int) : Bool := r == 9 || r == 10 || r == 11 || r == 12 || r == 13 || r == 32 || r == 133 || r == 8206 || r == 8207 || r == 8232 || r == 8233
def syB (r : Int) : Bool :=
  decide (33 ≤ r ∧ r ≤ 47 ∨ 58 ≤ r ∧ r ≤ 64 ∨ 91 ≤ r ∧ r ≤ 94 ∨ r = 96 ∨ 123 ≤ r ∧ r ≤ 126 ∨ 161 ≤ r ∧ r ≤ 167 ∨ r = 169 ∨ r = 171 ∨ r = 172 ∨ r = 174 ∨ r = 176 ∨ r = 177 ∨ r = 182 ∨ r = 187 ∨ r = 191 ∨ r = 215 ∨ r = 247 ∨ 8208 ≤ r ∧ r ≤ 8231 ∨ 8240 ≤ r ∧ r ≤ 8254 ∨ 8257 ≤ r ∧ r ≤ 8275 ∨ 8277 ≤ r ∧ r ≤ 8286 ∨ 8592 ≤ r ∧ r ≤ 11263 ∨ 11776 ≤ r ∧ r ≤ 11903 ∨ 12289 ≤ r ∧ r ≤ 12291 ∨ 12296 ≤ r ∧ r ≤ 12320 ∨ r = 12336 ∨ r = 64830 ∨ r = 64831 ∨ r = 65093 ∨ r = 65094)
def blanks (s : ByteArray) (i : Nat) : Nat :=
  if h : i < s.size then if spB (Utf8.decode s i).1 then blanks s (i + (Utf8.decode s i).2) else i else i
termination_by s.size - i
decreasing_by have := width_pos s i h; omega
def stopB (s : ByteArray) (i : Nat) : Bool :=
  ((Utf8.decode s i).1 : Int) == 65533 && ((Utf8.decode s i).2 : Int) == 1 || spB (Utf8.decode s i).1 || syB (Utf8.decode s i).1
def wordEnd (s : ByteArray) (i : Nat) : Nat :=
  if h : i < s.size then if stopB s i then i else wordEnd s (i + (Utf8.decode s i).2) else i
termination_by s.size - i
decreasing_by have := width_pos s i h; omega
def numB (c : Nat) : Bool := 48 ≤ c && c ≤ 57 || c == 45 || c == 46
def numEnd (s : ByteArray) (i : Nat) : Nat :=
  if h : i < s.size then if numB (b8 s i) then numEnd s (i + 1) else i else i
termination_by s.size - i
def letB (c : Nat) : Bool := 97 ≤ c && c ≤ 122 || 65 ≤ c && c ≤ 90
def letEnd (s : ByteArray) (i : Nat) : Nat :=
  if h : i < s.size then if letB (b8 s i) then letEnd s (i + 1) else i else i
termination_by s.size - i
def synB (c : Nat) (sort : Int) : Bool := c == 123 || c == 125 || c == 35 && sort == 1 || c == 124 && sort == 2
def quoteE (s : ByteArray) (i : Nat) : List UInt8 × Nat :=
  if h : i < s.size then
    if b8 s i = 39 then
      if b8 s (i + 1) = 39 then (39 :: (quoteE s (i + 2)).1, (quoteE s (i + 2)).2) else ([], i + 1)
    else (s[i]'h :: (quoteE s (i + 1)).1, (quoteE s (i + 1)).2)
  else ([], i)
termination_by s.size - i
theorem quoteE_ge (s : ByteArray) (i : Nat) : i ≤ (quoteE s i).2 := by
  induction i using quoteE.induct s with
  | case1 i h h1 h2 ih => rw [quoteE, dif_pos h, if_pos h1, if_pos h2]; simp; omega
  | case2 i h h1 h2 => rw [quoteE, dif_pos h, if_pos h1, if_neg h2]; simp
  | case3 i h h1 ih => rw [quoteE, dif_pos h, if_neg h1]; simp; omega
  | case4 i h => rw [quoteE, dif_neg h]; simp
def aposE (s : ByteArray) (m sort : Int) (i : Nat) : List UInt8 × Nat × List Nat :=
  if b8 s (i + 1) = 39 then ([39], i + 2, [])
  else if m == 2 || (decide (i + 1 < s.size) && synB (b8 s (i + 1)) sort) then ((quoteE s (i + 1)).1, (quoteE s (i + 1)).2, [])
  else ([39], i + 1, [i])
theorem aposE_gt (s : ByteArray) (m sort : Int) (i : Nat) : i < (aposE s m sort i).2.1 := by
  unfold aposE
  have := quoteE_ge s (i + 1)
  repeat' split
  all_goals simp
  all_goals omega
def textE (s : ByteArray) (m sort : Int) (outer : Bool) (i : Nat) : List UInt8 × Nat × List Nat :=
  if h : i < s.size then
    if b8 s i = 39 then
      ((aposE s m sort i).1 ++ (textE s m sort outer (aposE s m sort i).2.1).1, (textE s m sort outer (aposE s m sort i).2.1).2.1, (aposE s m sort i).2.2 ++ (textE s m sort outer (aposE s m sort i).2.1).2.2)
    else if synB (b8 s i) sort && !(outer && b8 s i == 125) then ([], i, [])
    else (s[i]'h :: (textE s m sort outer (i + 1)).1, (textE s m sort outer (i + 1)).2)
  else ([], i, [])
termination_by s.size - i
decreasing_by
  all_goals first | exact Nat.sub_lt_sub_left h (aposE_gt _ _ _ _) | omega
end Go.Proofs.YtcpglgoiienhkaaGreatDoor.P
namespace Go.Proofs.YtcpglgoiienhkaaGreatDoor
open Go.RowKit P
structure Gl (W : World) : Prop where
  tabs : Lib.Utf8Tabs 0 1 W
  mlen : ∃ m, W.cell? ⟨5, 0, none⟩ = some (.int .i64 m)
  pow : Lib.TabIs Tryz.prog W "internal/strconv.uint64pow10" .u64 Lib.pow10Tab
  esyn : ∃ tp p, W.var? Tryz.prog "strconv.ErrSyntax" = some #[.iface tp p]
  eran : ∃ tp p, W.var? Tryz.prog "strconv.ErrRange" = some #[.iface tp p]
theorem gl_pow : Tryz.prog.globalNamed "internal/strconv.uint64pow10" = some 4 := by kernel_rfl
theorem gl_syn : Tryz.prog.globalNamed "strconv.ErrSyntax" = some 2 := by kernel_rfl
theorem gl_ran : Tryz.prog.globalNamed "strconv.ErrRange" = some 3 := by kernel_rfl
theorem Gl.below {n0 : Nat} {W W' : World} (h : Gl W) (hn : 8 ≤ n0) (hb : Below n0 W W') : Gl W' := by
  obtain ⟨t, ⟨m, hm⟩, hp, ⟨t1, p1, e1⟩, ⟨t2, p2, e2⟩⟩ := h
  refine ⟨⟨fun c hc => ?_, fun i hi => ⟨?_, ?_⟩⟩, ⟨m, ?_⟩, ?_, ⟨t1, p1, ?_⟩, ⟨t2, p2, ?_⟩⟩
  · rw [hb.cell (by simp; omega)]; exact t.1 c hc
  · rw [hb.cell (by simp; omega)]; exact (t.2 i hi).1
  · rw [hb.cell (by simp; omega)]; exact (t.2 i hi).2
  · rw [hb.cell (by simp; omega)]; exact hm
  · exact var?_below hb gl_pow (by omega) hp
  · exact var?_below hb gl_syn (by omega) e1
  · exact var?_below hb gl_ran (by omega) e2
def LxC (X : Nat) (s : ByteArray) (m i e at_ : Int) (al yv : Value) (W : World) : Prop :=
  W.heap[X]? = some (.cells #[.string s, .int .i64 m, .int .i64 i, .int .i64 e, .int .i64 at_, al, yv] 88 (0, 0))
theorem LxC.cells {X : Nat} {s : ByteArray} {m i e at_ : Int} {al yv : Value} {W : World} (h : LxC X s m i e at_ al yv W) :
    W.cell? ⟨X, 0, none⟩ = some (.string s) ∧ W.cell? ⟨X, 1, none⟩ = some (.int .i64 m) ∧ W.cell? ⟨X, 2, none⟩ = some (.int .i64 i) ∧ W.cell? ⟨X, 3, none⟩ = some (.int .i64 e) ∧ W.cell? ⟨X, 4, none⟩ = some (.int .i64 at_) ∧ W.cell? ⟨X, 5, none⟩ = some al ∧ W.cell? ⟨X, 6, none⟩ = some yv := by
  unfold LxC at h
  refine ⟨?_, ?_, ?_, ?_, ?_, ?_, ?_⟩ <;> (rw [Lib.cell_of_heap h]; rfl)
theorem LxC.free {X : Nat} {s : ByteArray} {m i e at_ : Int} {al yv : Value} {W : World} (h : LxC X s m i e at_ al yv W) (j : Nat) : W.frozen? ⟨X, j, none⟩ = false := Lib.frozen_of_heap h j
theorem LxC.lt {X : Nat} {s : ByteArray} {m i e at_ : Int} {al yv : Value} {W : World} (h : LxC X s m i e at_ al yv W) : X < W.heap.size := (Array.getElem?_eq_some_iff.1 h).1
theorem heap_setCell {W : World} {X j : Nat} {c : Array Value} {T : TypeId} {fz : Nat × Nat} (h : W.heap[X]? = some (.cells c T fz)) (v : Value) :
    (W.setCell ⟨X, j, none⟩ v).heap[X]? = some (.cells (c.setIfInBounds j v) T fz) := by
  obtain ⟨hlt, hk⟩ := Array.getElem?_eq_some_iff.1 h
  simp only [World.setCell]
  rw [Array.getElem?_eq_getElem (by rw [Array.size_modify]; exact hlt), Array.getElem_modify_self, hk]
  rfl
theorem LxC.seti {X : Nat} {s : ByteArray} {m i e at_ : Int} {al yv : Value} {W : World} (h : LxC X s m i e at_ al yv W) (i' : Int) : LxC X s m i' e at_ al yv (W.setCell ⟨X, 2, none⟩ (.int .i64 i')) := heap_setCell h _
theorem LxC.sete {X : Nat} {s : ByteArray} {m i e at_ : Int} {al yv : Value} {W : World} (h : LxC X s m i e at_ al yv W) (e' : Int) : LxC X s m i e' at_ al yv (W.setCell ⟨X, 3, none⟩ (.int .i64 e')) := heap_setCell h _
theorem LxC.seta {X : Nat} {s : ByteArray} {m i e at_ : Int} {al yv : Value} {W : World} (h : LxC X s m i e at_ al yv W) (a' : Int) : LxC X s m i e a' al yv (W.setCell ⟨X, 4, none⟩ (.int .i64 a')) := heap_setCell h _
theorem LxC.setl {X : Nat} {s : ByteArray} {m i e at_ : Int} {al yv : Value} {W : World} (h : LxC X s m i e at_ al yv W) (l' : Value) : LxC X s m i e at_ l' yv (W.setCell ⟨X, 5, none⟩ l') := heap_setCell h _
theorem LxC.sety {X : Nat} {s : ByteArray} {m i e at_ : Int} {al yv : Value} {W : World} (h : LxC X s m i e at_ al yv W) (y' : Value) : LxC X s m i e at_ al y' (W.setCell ⟨X, 6, none⟩ y') := heap_setCell h _
structure Lx (n0 X : Nat) (s : ByteArray) (m i e at_ : Int) (al : List Nat) (yv : Value) (W : World) : Prop where
  low : n0 ≤ X
  glob : Gl W
  sz : s.size ≤ 65536
  aln : al.length ≤ i.toNat
  own : ∃ v, LxC X s m i e at_ v yv W ∧ W.ownsRow n0 3 1 v al.length (al.map fun n : Nat => Value.int .i64 n)
structure Kept (n0 X : Nat) (W W' : World) : Prop where
  below : Below n0 W W'
  same : ∀ (k : Nat) (o : Obj), W.heap[k]? = some o → k ≠ X → (∀ (c : Array Value) (fz : Nat × Nat), o ≠ .cells c 3 fz) → W'.heap[k]? = some o
theorem Kept.refl (n0 X : Nat) (W : World) : Kept n0 X W W := ⟨Below.refl _ _, fun _ _ h _ _ => h⟩
theorem Kept.trans {n0 X : Nat} {A B C : World} (h : Kept n0 X A B) (k : Kept n0 X B C) : Kept n0 X A C :=
  ⟨h.below.trans k.below, fun j o hj hx ho => k.same j o (h.same j o hj hx ho) hx ho⟩
theorem Kept.drew {n0 X : Nat} {A W : World} (h : Kept n0 X A W) : Kept n0 X A W.drew := ⟨h.below.drew, h.same⟩
theorem Kept.drewN {n0 X : Nat} {A W : World} (h : Kept n0 X A W) (n : Nat) : Kept n0 X A (W.drewN n) := ⟨⟨h.below.os, h.below.tape, h.below.output, h.below.size, h.below.block⟩, h.same⟩
theorem Kept.ofBelow {n0 X : Nat} {A W : World} (hn : n0 ≤ A.heap.size) (h : Below A.heap.size A W) : Kept n0 X A W :=
  ⟨h.mono hn, fun k o hk _ _ => (h.block k (Array.getElem?_eq_some_iff.1 hk).1).trans hk⟩
theorem Kept.alloc {n0 X : Nat} {A W : World} (h : Kept n0 X A W) (hn : n0 ≤ A.heap.size) (o : Obj) : Kept n0 X A (W.alloc o) :=
  h.trans ⟨(Below.refl n0 W).alloc (Nat.le_trans hn h.below.size) o, fun k o' hk _ _ => (Below.heap_alloc W o k (Array.getElem?_eq_some_iff.1 hk).1).trans hk⟩
theorem Kept.setX {n0 X : Nat} {A W : World} (h : Kept n0 X A W) (hn : n0 ≤ X) (j : Nat) (v : Value) : Kept n0 X A (W.setCell ⟨X, j, none⟩ v) :=
  h.trans ⟨(Below.refl n0 W).setCell (p := ⟨X, j, none⟩) hn v, fun k o hk hx _ => (Below.heap_setCell W ⟨X, j, none⟩ v k hx).trans hk⟩
theorem Kept.step {n0 X : Nat} {A W W' : World} (h : Kept n0 X A W) (hn : n0 ≤ A.heap.size) (hb : Below A.heap.size W W') : Kept n0 X A W' := by
  refine ⟨h.below.trans (hb.mono hn), fun k o hk hx ho => ?_⟩
  exact (hb.block k (Array.getElem?_eq_some_iff.1 hk).1).trans (h.same k o hk hx ho)
theorem LxC.of_same {X : Nat} {s : ByteArray} {m i e at_ : Int} {al yv : Value} {W W' : World} (h : LxC X s m i e at_ al yv W) (hs : W'.heap[X]? = W.heap[X]?) : LxC X s m i e at_ al yv W' := hs.trans h
theorem ownsRow_same {W W' : World} {b : Nat} {e : TypeId} {v : Value} {n : Nat} {xs : List Value} (h : W.ownsRow b e 1 v n xs)
    (hs : ∀ (k : Nat) (c : Array Value) (fz : Nat × Nat), W.heap[k]? = some (.cells c e fz) → b ≤ k → W'.heap[k]? = some (.cells c e fz)) : W'.ownsRow b e 1 v n xs := by
  refine ⟨h.1, ?_⟩
  rcases h.2 with h2 | ⟨g, cap, cur, rfl, hb, hg, rest⟩
  · exact .inl h2
  · exact .inr ⟨g, cap, cur, rfl, hb, hs g _ _ hg hb, rest⟩
theorem Lx.same {n0 X : Nat} {s : ByteArray} {m i e at_ : Int} {al : List Nat} {yv : Value} {W W' : World} (h : Lx n0 X s m i e at_ al yv W) (hn : 8 ≤ n0) (hb : Below n0 W W')
    (hs : ∀ (k : Nat) (c : Array Value) (T : TypeId) (fz : Nat × Nat), W.heap[k]? = some (.cells c T fz) → T = 88 ∨ T = 3 → W'.heap[k]? = some (.cells c T fz)) : Lx n0 X s m i e at_ al yv W' := by
  obtain ⟨low, glob, sz, aln, v, hc, ho⟩ := h
  exact ⟨low, glob.below hn hb, sz, aln, v, hs X _ _ _ hc (.inl rfl), ownsRow_same ho fun k c fz hk _ => hs k _ _ _ hk (.inr rfl)⟩
theorem Lx.drewN {n0 X : Nat} {s : ByteArray} {m i e at_ : Int} {al : List Nat} {yv : Value} {W : World} (h : Lx n0 X s m i e at_ al yv W) (n : Nat) : Lx n0 X s m i e at_ al yv (W.drewN n) := by
  obtain ⟨low, glob, sz, aln, v, hc, ho⟩ := h
  exact ⟨low, ⟨glob.tabs, glob.mlen, glob.pow, glob.esyn, glob.eran⟩, sz, aln, v, hc, ho⟩
theorem Lx.drew {n0 X : Nat} {s : ByteArray} {m i e at_ : Int} {al : List Nat} {yv : Value} {W : World} (h : Lx n0 X s m i e at_ al yv W) : Lx n0 X s m i e at_ al yv W.drew := h.drewN 1
theorem Lx.lt {n0 X : Nat} {s : ByteArray} {m i e at_ : Int} {al : List Nat} {yv : Value} {W : World} (h : Lx n0 X s m i e at_ al yv W) : X < W.heap.size := by
  obtain ⟨_, _, _, _, v, hc, _⟩ := h; exact hc.lt
theorem Lx.le {n0 X : Nat} {s : ByteArray} {m i e at_ : Int} {al : List Nat} {yv : Value} {W : World} (h : Lx n0 X s m i e at_ al yv W) : n0 ≤ W.heap.size := by
  have := h.lt; have := h.low; omega
theorem Lx.later {n0 X : Nat} {s : ByteArray} {m i e at_ : Int} {al : List Nat} {yv : Value} {W W' : World} (h : Lx n0 X s m i e at_ al yv W) (hn : 8 ≤ n0) (hb : Below W.heap.size W W') : Lx n0 X s m i e at_ al yv W' :=
  h.same hn (hb.mono h.le) fun k c T fz hk _ => (hb.block k (Array.getElem?_eq_some_iff.1 hk).1).trans hk
theorem Lx.seti {n0 X : Nat} {s : ByteArray} {m i e at_ : Int} {al : List Nat} {yv : Value} {W : World} (h : Lx n0 X s m i e at_ al yv W) (hn : 8 ≤ n0) (i' : Int) (hi : i.toNat ≤ i'.toNat) : Lx n0 X s m i' e at_ al yv (W.setCell ⟨X, 2, none⟩ (.int .i64 i')) := by
  have hb : Below n0 W (W.setCell ⟨X, 2, none⟩ (.int .i64 i')) := (Below.refl n0 W).setCell (p := ⟨X, 2, none⟩) h.low _
  obtain ⟨low, glob, sz, aln, v, hc, ho⟩ := h
  refine ⟨low, glob.below hn hb, sz, by omega, v, hc.seti i', ownsRow_same ho fun k c fz hk _ => ?_⟩
  rw [Below.heap_setCell _ _ _ _ (fun e' => by subst e'; rw [LxC] at hc; rw [hc] at hk; cases hk)]; exact hk
theorem Lx.setE {n0 X : Nat} {s : ByteArray} {m i e at_ : Int} {al : List Nat} {yv : Value} {W : World} (h : Lx n0 X s m i e at_ al yv W) (hn : 8 ≤ n0) (e' : Int) : Lx n0 X s m i e' at_ al yv (W.setCell ⟨X, 3, none⟩ (.int .i64 e')) := by
  have hb : Below n0 W (W.setCell ⟨X, 3, none⟩ (.int .i64 e')) := (Below.refl n0 W).setCell (p := ⟨X, 3, none⟩) h.low _
  obtain ⟨low, glob, sz, aln, v, hc, ho⟩ := h
  refine ⟨low, glob.below hn hb, sz, aln, v, hc.sete e', ownsRow_same ho fun k c fz hk _ => ?_⟩
  rw [Below.heap_setCell _ _ _ _ (fun e' => by subst e'; rw [LxC] at hc; rw [hc] at hk; cases hk)]; exact hk
theorem Lx.setA {n0 X : Nat} {s : ByteArray} {m i e at_ : Int} {al : List Nat} {yv : Value} {W : World} (h : Lx n0 X s m i e at_ al yv W) (hn : 8 ≤ n0) (a' : Int) : Lx n0 X s m i e a' al yv (W.setCell ⟨X, 4, none⟩ (.int .i64 a')) := by
  have hb : Below n0 W (W.setCell ⟨X, 4, none⟩ (.int .i64 a')) := (Below.refl n0 W).setCell (p := ⟨X, 4, none⟩) h.low _
  obtain ⟨low, glob, sz, aln, v, hc, ho⟩ := h
  refine ⟨low, glob.below hn hb, sz, aln, v, hc.seta a', ownsRow_same ho fun k c fz hk _ => ?_⟩
  rw [Below.heap_setCell _ _ _ _ (fun e' => by subst e'; rw [LxC] at hc; rw [hc] at hk; cases hk)]; exact hk
end Go.Proofs.YtcpglgoiienhkaaGreatDoor
