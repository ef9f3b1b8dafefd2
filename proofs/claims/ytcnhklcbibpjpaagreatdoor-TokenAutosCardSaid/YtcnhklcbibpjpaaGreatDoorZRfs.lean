/- Lemmas behind the laws of the tokens; no conditions. -/
import Derived.Test.YtcnhklcbibpjpaaGreatDoorZMG
set_option linter.unusedVariables false
set_option linter.unusedSimpArgs false

namespace Go.Proofs.YtcnhklcbibpjpaaGreatDoor
open Go.RowKit P Ext
abbrev lxV (s : ByteArray) (m : Int) (i : Int) (vl vo : Value) (e a : Int) (va : Value) : Value :=
  .agg #[.string s, .int .i64 m, .int .i64 i, vl, vo, .int .i64 e, .int .i64 a, va]
abbrev Fr := Int × Bool × Int × Bool × Int
def frCells (fs : List Fr) : List Value := fs.flatMap fun f => [.int .i64 f.1, .bool f.2.1, .int .i64 f.2.2.1, .bool f.2.2.2.1, .int .i64 f.2.2.2.2]
def alCells (al : List Nat) : List Value := al.map fun n : Nat => .int .i64 n
structure RO (A : World) (ts : List Tk) (fs : List Fr) (al : List Nat) (gl : Option Addr) (cl : Nat) (go : Option Addr) (co : Nat) (ga : Option Addr) (ca : Nat) (W : World) : Prop where
  tok : W.ownsRow A.heap.size 30 3 (.slice gl ts.length cl) ts.length (tkCells ts)
  fr : W.ownsRow A.heap.size 65 5 (.slice go fs.length co) fs.length (frCells fs)
  ap : W.ownsRow A.heap.size 3 1 (.slice ga al.length ca) al.length (alCells al)
  bel : Below A.heap.size A W
structure KR (fb : Bool) (W W' : World) : Prop where
  size : W.heap.size ≤ W'.heap.size
  same : ∀ (j : Nat) (c : Array Value) (T : TypeId) (fz : Nat × Nat), W.heap[j]? = some (.cells c T fz) → T ≠ 30 → (fb = true → T ≠ 65) → T ≠ 3 → W'.heap[j]? = some (.cells c T fz)
theorem KR.refl (fb : Bool) (W : World) : KR fb W W := ⟨Nat.le_refl _, fun _ _ _ _ h _ _ _ => h⟩
theorem KR.trans {fb : Bool} {A B C : World} (h : KR fb A B) (k : KR fb B C) : KR fb A C := ⟨Nat.le_trans h.size k.size, fun j c T fz h0 h1 h2 h3 => k.same j c T fz (h.same j c T fz h0 h1 h2 h3) h1 h2 h3⟩
theorem KR.ofBelow {fb : Bool} {W W' : World} (h : Below W.heap.size W W') : KR fb W W' := ⟨h.size, fun j c T fz hj _ _ _ => (h.block j (Array.getElem?_eq_some_iff.1 hj).1).trans hj⟩
theorem KR.alloc {fb : Bool} (W : World) (o : Obj) : KR fb W (W.alloc o) := KR.ofBelow ((Below.refl _ W).alloc (Nat.le_refl _) o)
section
variable {A W W' : World} {ts : List Tk} {fs : List Fr} {al : List Nat} {gl go ga : Option Addr} {cl co ca : Nat}
theorem RO.later (h : RO A ts fs al gl cl go co ga ca W) (hb : Below W.heap.size W W') : RO A ts fs al gl cl go co ga ca W' := by
  have hs : ∀ (k : Nat) (c : Array Value) (T : TypeId) (fz : Nat × Nat), W.heap[k]? = some (.cells c T fz) → W'.heap[k]? = some (.cells c T fz) := fun k c T fz hk => (hb.block k (Array.getElem?_eq_some_iff.1 hk).1).trans hk
  exact ⟨ownsRow_sameN h.tok fun k c fz hk _ => hs _ _ _ _ hk, ownsRow_sameN h.fr fun k c fz hk _ => hs _ _ _ _ hk, ownsRow_sameN h.ap fun k c fz hk _ => hs _ _ _ _ hk, h.bel.trans (hb.mono h.bel.size)⟩
theorem RO.alloc (h : RO A ts fs al gl cl go co ga ca W) (o : Obj) : RO A ts fs al gl cl go co ga ca (W.alloc o) := h.later ((Below.refl _ W).alloc (Nat.le_refl _) o)
theorem RO.drewN (h : RO A ts fs al gl cl go co ga ca W) (k : Nat) : RO A ts fs al gl cl go co ga ca (W.drewN k) := h.later (Below.drewN' (Below.refl _ W) k)
theorem RO.set (h : RO A ts fs al gl cl go co ga ca W) {b : Nat} {c : Array Value} {T : TypeId} {fz : Nat × Nat} (hb : W.heap[b]? = some (.cells c T fz)) (h1 : T ≠ 30) (h2 : T ≠ 65) (h3 : T ≠ 3) (hA : A.heap.size ≤ b) (j : Nat) (v : Value) :
    RO A ts fs al gl cl go co ga ca (W.setCell ⟨b, j, none⟩ v) := by
  have hs : ∀ (k : Nat) (c' : Array Value) (T' : TypeId) (fz' : Nat × Nat), W.heap[k]? = some (.cells c' T' fz') → T' ≠ T → (W.setCell ⟨b, j, none⟩ v).heap[k]? = some (.cells c' T' fz') := fun k c' T' fz' hk hT => by
    rw [Below.heap_setCell _ _ _ _ (fun e' => by dsimp only at e'; subst e'; rw [hb] at hk; cases hk; exact hT rfl)]
    exact hk
  exact ⟨ownsRow_sameN h.tok fun k c fz hk _ => hs _ _ _ _ hk (Ne.symm h1), ownsRow_sameN h.fr fun k c fz hk _ => hs _ _ _ _ hk (Ne.symm h2), ownsRow_sameN h.ap fun k c fz hk _ => hs _ _ _ _ hk (Ne.symm h3), h.bel.setCell (p := ⟨b, j, none⟩) hA v⟩
theorem KR.mono {fb : Bool} {W W' : World} (h : KR false W W') : KR fb W W' := ⟨h.size, fun j c T fz hj h1 _ h3 => h.same j c T fz hj h1 (fun e => by cases e) h3⟩
theorem KR.set {fb : Bool} {W0 : World} (h : KR fb W0 W) {b : Nat} (h0 : W0.heap.size ≤ b) (j : Nat) (v : Value) : KR fb W0 (W.setCell ⟨b, j, none⟩ v) := by
  refine ⟨by simpa using h.size, fun k c T fz hk h1 h2 h3 => ?_⟩
  have hlt := (Array.getElem?_eq_some_iff.1 hk).1
  rw [Below.heap_setCell _ _ _ _ (fun e' => by dsimp only at e'; omega)]
  exact h.same k c T fz hk h1 h2 h3
theorem row_own {b : Nat} {e : TypeId} {z : Nat} {v : Value} {n : Nat} {xs : List Value} (h : W.ownsRow b e z v n xs) : ∀ j, v.ownBlock = some j → b ≤ j ∧ ∃ c, W.heap[j]? = some (.cells c e (0, 0)) := by
  intro j hj
  rcases h.2 with ⟨rfl, _⟩ | ⟨g, cap, cur, rfl, hb, hg, _⟩
  · cases hj
  · cases hj; exact ⟨hb, _, hg⟩
theorem grown_other {e : TypeId} {z b : Nat} {v : Value} {n : Nat} {xs : List Value} (ho : W.ownsRow b e z v n xs) (hgrow : W.grownBy W' v.ownBlock) {j : Nat} {c : Array Value} {T : TypeId} {fz : Nat × Nat} (hj : W.heap[j]? = some (.cells c T fz)) (hT : T ≠ e) : W'.heap[j]? = some (.cells c T fz) := by
  rw [hgrow.block j (Array.getElem?_eq_some_iff.1 hj).1 (fun e' => by
    obtain ⟨_, c', hc⟩ := row_own ho j e'.symm
    rw [hc] at hj; cases hj; exact hT rfl)]
  exact hj
theorem RO.pushTok {fb : Bool} (h : RO A ts fs al gl cl go co ga ca W) {v' : Value} {t : Tk} (hgrow : W.grownBy W' (Value.slice gl ts.length cl).ownBlock)
    (hown : W'.ownsRow A.heap.size 30 3 v' (ts.length + 1) (tkCells ts ++ [.int .i64 t.1, .string t.2.1, .int .i64 t.2.2])) :
    ∃ gl' cl', v' = .slice gl' (ts ++ [t]).length cl' ∧ RO A (ts ++ [t]) fs al gl' cl' go co ga ca W' ∧ KR fb W W' := by
  obtain ⟨g', c', rfl⟩ := ownsRow_succ hown
  have hl : (ts ++ [t]).length = ts.length + 1 := by simp
  have he : tkCells (ts ++ [t]) = tkCells ts ++ [.int .i64 t.1, .string t.2.1, .int .i64 t.2.2] := by simp [tkCells]
  refine ⟨_, c', by rw [hl], ⟨by rw [hl, he]; exact hown, ownsRow_sameN h.fr fun k c fz hk _ => grown_other h.tok hgrow hk (by decide), ownsRow_sameN h.ap fun k c fz hk _ => grown_other h.tok hgrow hk (by decide), ?_⟩, hgrow.size, fun j c T fz hj h1 _ _ => grown_other h.tok hgrow hj h1⟩
  exact h.bel.grown hgrow h.bel.size (fun k e => (row_own h.tok k e).1)
theorem RO.pushAl {fb : Bool} (h : RO A ts fs al gl cl go co ga ca W) {v' : Value} {t : Nat} (hgrow : W.grownBy W' (Value.slice ga al.length ca).ownBlock)
    (hown : W'.ownsRow A.heap.size 3 1 v' (al.length + 1) (alCells al ++ [.int .i64 (t : Int)])) :
    ∃ ga' ca', v' = .slice ga' (al ++ [t]).length ca' ∧ RO A ts fs (al ++ [t]) gl cl go co ga' ca' W' ∧ KR fb W W' := by
  obtain ⟨g', c', rfl⟩ := ownsRow_succ hown
  have hl : (al ++ [t]).length = al.length + 1 := by simp
  have he : alCells (al ++ [t]) = alCells al ++ [.int .i64 (t : Int)] := by simp [alCells]
  refine ⟨_, c', by rw [hl], ⟨ownsRow_sameN h.tok fun k c fz hk _ => grown_other h.ap hgrow hk (by decide), ownsRow_sameN h.fr fun k c fz hk _ => grown_other h.ap hgrow hk (by decide), by rw [hl, he]; exact hown, ?_⟩, hgrow.size, fun j c T fz hj _ _ h3 => grown_other h.ap hgrow hj h3⟩
  exact h.bel.grown hgrow h.bel.size (fun k e => (row_own h.ap k e).1)
theorem RO.pushFr (h : RO A ts fs al gl cl go co ga ca W) {v' : Value} {f : Fr} (hgrow : W.grownBy W' (Value.slice go fs.length co).ownBlock)
    (hown : W'.ownsRow A.heap.size 65 5 v' (fs.length + 1) (frCells fs ++ [.int .i64 f.1, .bool f.2.1, .int .i64 f.2.2.1, .bool f.2.2.2.1, .int .i64 f.2.2.2.2])) :
    ∃ go' co', v' = .slice go' (fs ++ [f]).length co' ∧ RO A ts (fs ++ [f]) al gl cl go' co' ga ca W' ∧ KR true W W' := by
  obtain ⟨g', c', rfl⟩ := ownsRow_succ hown
  have hl : (fs ++ [f]).length = fs.length + 1 := by simp
  have he : frCells (fs ++ [f]) = frCells fs ++ [.int .i64 f.1, .bool f.2.1, .int .i64 f.2.2.1, .bool f.2.2.2.1, .int .i64 f.2.2.2.2] := by simp [frCells]
  refine ⟨_, c', by rw [hl], ⟨ownsRow_sameN h.tok fun k c fz hk _ => grown_other h.fr hgrow hk (by decide), by rw [hl, he]; exact hown, ownsRow_sameN h.ap fun k c fz hk _ => grown_other h.fr hgrow hk (by decide), ?_⟩, hgrow.size, fun j c T fz hj _ h2 _ => grown_other h.fr hgrow hj (h2 rfl)⟩
  exact h.bel.grown hgrow h.bel.size (fun k e => (row_own h.fr k e).1)
def Bx (X : Nat) (s : ByteArray) (m i : Int) (vl vo : Value) (e a : Int) (va : Value) (W : World) : Prop :=
  W.heap[X]? = some (.cells #[.string s, .int .i64 m, .int .i64 i, vl, vo, .int .i64 e, .int .i64 a, va] 49 (0, 0))
theorem Bx.cells {X : Nat} {s : ByteArray} {m i : Int} {vl vo : Value} {e a : Int} {va : Value} (h : Bx X s m i vl vo e a va W) :
    W.cell? ⟨X, 0, none⟩ = some (.string s) ∧ W.cell? ⟨X, 1, none⟩ = some (.int .i64 m) ∧ W.cell? ⟨X, 2, none⟩ = some (.int .i64 i) ∧ W.cell? ⟨X, 3, none⟩ = some vl ∧ W.cell? ⟨X, 4, none⟩ = some vo ∧ W.cell? ⟨X, 5, none⟩ = some (.int .i64 e) ∧ W.cell? ⟨X, 6, none⟩ = some (.int .i64 a) ∧ W.cell? ⟨X, 7, none⟩ = some va := by
  refine ⟨?_, ?_, ?_, ?_, ?_, ?_, ?_, ?_⟩ <;> (rw [Lib.cell_of_heap h]; rfl)
theorem Bx.free {X : Nat} {s : ByteArray} {m i : Int} {vl vo : Value} {e a : Int} {va : Value} (h : Bx X s m i vl vo e a va W) (j : Nat) : W.frozen? ⟨X, j, none⟩ = false := Lib.frozen_of_heap h j
theorem Bx.lt {X : Nat} {s : ByteArray} {m i : Int} {vl vo : Value} {e a : Int} {va : Value} (h : Bx X s m i vl vo e a va W) : X < W.heap.size := (Array.getElem?_eq_some_iff.1 h).1
theorem Bx.kr {X : Nat} {s : ByteArray} {m i : Int} {vl vo : Value} {e a : Int} {va : Value} (h : Bx X s m i vl vo e a va W) {fb : Bool} (k : KR fb W W') : Bx X s m i vl vo e a va W' := k.same _ _ _ _ h (by decide) (fun _ => by decide) (by decide)
theorem Bx.new {s : ByteArray} {m i : Int} {vl vo : Value} {e a : Int} {va : Value} (W : World) : Bx W.heap.size s m i vl vo e a va (W.alloc (.cells #[.string s, .int .i64 m, .int .i64 i, vl, vo, .int .i64 e, .int .i64 a, va] 49)) := World.alloc_heap_new W _
theorem Bx.alloc {X : Nat} {s : ByteArray} {m i : Int} {vl vo : Value} {e a : Int} {va : Value} (h : Bx X s m i vl vo e a va W) (o : Obj) : Bx X s m i vl vo e a va (W.alloc o) := h.kr (KR.alloc (fb := true) W o)
theorem Bx.set0 {X : Nat} {s : ByteArray} {m i : Int} {vl vo : Value} {e a : Int} {va : Value} (h : Bx X s m i vl vo e a va W) (s' : ByteArray) : Bx X s' m i vl vo e a va (W.setCell ⟨X, 0, none⟩ (.string s')) := heap_setCell h _
theorem Bx.set1 {X : Nat} {s : ByteArray} {m i : Int} {vl vo : Value} {e a : Int} {va : Value} (h : Bx X s m i vl vo e a va W) (m' : Int) : Bx X s m' i vl vo e a va (W.setCell ⟨X, 1, none⟩ (.int .i64 m')) := heap_setCell h _
theorem Bx.set5 {X : Nat} {s : ByteArray} {m i : Int} {vl vo : Value} {e a : Int} {va : Value} (h : Bx X s m i vl vo e a va W) (e' : Int) : Bx X s m i vl vo e' a va (W.setCell ⟨X, 5, none⟩ (.int .i64 e')) := heap_setCell h _
theorem Bx.set6 {X : Nat} {s : ByteArray} {m i : Int} {vl vo : Value} {e a : Int} {va : Value} (h : Bx X s m i vl vo e a va W) (a' : Int) : Bx X s m i vl vo e a' va (W.setCell ⟨X, 6, none⟩ (.int .i64 a')) := heap_setCell h _
theorem Bx.set2 {X : Nat} {s : ByteArray} {m i : Int} {vl vo : Value} {e a : Int} {va : Value} (h : Bx X s m i vl vo e a va W) (i' : Int) : Bx X s m i' vl vo e a va (W.setCell ⟨X, 2, none⟩ (.int .i64 i')) := heap_setCell h _
theorem Bx.set3 {X : Nat} {s : ByteArray} {m i : Int} {vl vo : Value} {e a : Int} {va : Value} (h : Bx X s m i vl vo e a va W) (v : Value) : Bx X s m i v vo e a va (W.setCell ⟨X, 3, none⟩ v) := heap_setCell h _
theorem Bx.set4 {X : Nat} {s : ByteArray} {m i : Int} {vl vo : Value} {e a : Int} {va : Value} (h : Bx X s m i vl vo e a va W) (v : Value) : Bx X s m i vl v e a va (W.setCell ⟨X, 4, none⟩ v) := heap_setCell h _
theorem Bx.set7 {X : Nat} {s : ByteArray} {m i : Int} {vl vo : Value} {e a : Int} {va : Value} (h : Bx X s m i vl vo e a va W) (v : Value) : Bx X s m i vl vo e a v (W.setCell ⟨X, 7, none⟩ v) := heap_setCell h _
theorem Bx.other {X : Nat} {s : ByteArray} {m i : Int} {vl vo : Value} {e a : Int} {va : Value} (h : Bx X s m i vl vo e a va W) {b : Nat} (hb : b ≠ X) (j : Nat) (v : Value) : Bx X s m i vl vo e a va (W.setCell ⟨b, j, none⟩ v) := by
  unfold Bx
  rw [Below.heap_setCell _ _ _ _ (fun e' => by dsimp only at e'; exact hb e'.symm)]
  exact h
theorem RO.bx (h : RO A ts fs al gl cl go co ga ca W) {X : Nat} {s : ByteArray} {m i : Int} {vl vo : Value} {e a : Int} {va : Value} (hb : Bx X s m i vl vo e a va W) (hA : A.heap.size ≤ X) (j : Nat) (v : Value) : RO A ts fs al gl cl go co ga ca (W.setCell ⟨X, j, none⟩ v) :=
  h.set hb (by decide) (by decide) (by decide) hA j v
structure Fl (X : Nat) (W W' : World) : Prop where
  os : W'.os = W.os
  tape : W'.tape = W.tape
  output : W'.output = W.output
  size : W'.heap.size = W.heap.size
  same : ∀ j, j ≠ X → W'.heap[j]? = W.heap[j]?
theorem Bx.fl {X Y : Nat} {s : ByteArray} {m i : Int} {vl vo : Value} {e a : Int} {va : Value} (h : Bx X s m i vl vo e a va W) (f : Fl Y W W') (hY : Y ≠ X) : Bx X s m i vl vo e a va W' := (f.same X (Ne.symm hY)).trans h
theorem RO.fl (h : RO A ts fs al gl cl go co ga ca W) {X : Nat} {s : ByteArray} {m i : Int} {vl vo : Value} {e a : Int} {va : Value} (hb : Bx X s m i vl vo e a va W) (f : Fl X W W') (hA : A.heap.size ≤ X) : RO A ts fs al gl cl go co ga ca W' := by
  have hs : ∀ (k : Nat) (c : Array Value) (T : TypeId) (fz : Nat × Nat), W.heap[k]? = some (.cells c T fz) → T ≠ 49 → W'.heap[k]? = some (.cells c T fz) := fun k c T fz hk hT => by
    rw [f.same k (fun e' => by subst e'; rw [hb] at hk; cases hk; exact hT rfl)]
    exact hk
  exact ⟨ownsRow_sameN h.tok fun k c fz hk _ => hs _ _ _ _ hk (by decide), ownsRow_sameN h.fr fun k c fz hk _ => hs _ _ _ _ hk (by decide), ownsRow_sameN h.ap fun k c fz hk _ => hs _ _ _ _ hk (by decide),
    ⟨f.os.trans h.bel.os, f.tape.trans h.bel.tape, f.output.trans h.bel.output, by rw [f.size]; exact h.bel.size, fun k hk => by rw [f.same k (by omega)]; exact h.bel.block k hk⟩⟩
theorem KR.fl {fb : Bool} {W0 : World} (h : KR fb W0 W) {X : Nat} (f : Fl X W W') (h0 : W0.heap.size ≤ X) : KR fb W0 W' := by
  refine ⟨by rw [f.size]; exact h.size, fun k c T fz hk h1 h2 h3 => ?_⟩
  have hlt := (Array.getElem?_eq_some_iff.1 hk).1
  rw [f.same k (by omega)]
  exact h.same k c T fz hk h1 h2 h3
theorem fl_row {X : Nat} {c : Array Value} {T : TypeId} (hb : W.heap[X]? = some (.cells c T (0, 0))) (cs : Array Value) : Fl X W (W.setRow X cs) ∧ (W.setRow X cs).heap[X]? = some (.cells cs T (0, 0)) := by
  refine ⟨⟨rfl, rfl, rfl, by simp [World.setRow], fun j hj => ?_⟩, ?_⟩
  · simp [World.setRow, Array.getElem?_modify, Ne.symm hj]
  · simp [World.setRow, Array.getElem?_modify, hb]
theorem gate_lx {P : Program} {ops : Array Oper} {rest : List Oper} {o : Oper} {a : Act} {Q : Exit → Act → World → Prop} {p : Tmp} {v : Operand} (_ho : o.op = .store 49 (.tmp p) v) (h : wpList P ops Q (o :: rest) a W) : wpList P ops Q (o :: rest) a W := h
theorem wp_fill {ops : Array Oper} {rest : List Oper} {o : Oper} {a : Act} {Q : Exit → Act → World → Prop} {X : Nat} {s0 : ByteArray} {m0 i0 : Int} {vl0 vo0 : Value} {e0 a0 : Int} {va0 : Value} (hb : Bx X s0 m0 i0 vl0 vo0 e0 a0 va0 W) (hgd : o.guard = none) {x y : Operand} (ho : o.op = .store 49 x y) (hd : o.dst = none)
    (hx : a.eval x = .pointer (some ⟨X, 0, none⟩)) {s : ByteArray} {m i e k : Int} {gl' go' ga' : Option Addr} {nl cl' no co' na ca' : Nat} (hy : a.eval y = .agg #[.string s, .int .i64 m, .int .i64 i, .slice gl' nl cl', .slice go' no co', .int .i64 e, .int .i64 k, .slice ga' na ca'])
    (h : ∀ W', Fl X W W' → Bx X s m i (.slice gl' nl cl') (.slice go' no co') e k (.slice ga' na ca') W' → wpList Tryz.prog ops Q rest a W') : wpList Tryz.prog ops Q (o :: rest) a W := by
  obtain ⟨h1, h2⟩ := fl_row hb #[.string s, .int .i64 m, .int .i64 i, .slice gl' nl cl', .slice go' no co', .int .i64 e, .int .i64 k, .slice ga' na ca']
  exact wpList_store_row hgd 49 x y ho X _ hx hy 49 _ hb (by kernel_rfl) rfl (by simp [Value.oneCell']) (by rw [hd]; exact h _ h1 h2)
theorem bx_ret {fn : Func} {p : Tmp} (hf : fn.results = #[.cell p 49]) {tmps : Array Value} {R : Nat} (hp : tmps.getD p undef = .pointer (some ⟨R, 0, none⟩)) {s : ByteArray} {m i : Int} {vl vo : Value} {e a : Int} {va : Value} (h : Bx R s m i vl vo e a va W) :
    (results fn tmps).run Tryz.prog W = .ok (.agg #[.string s, .int .i64 m, .int .i64 i, vl, vo, .int .i64 e, .int .i64 a, va]) W :=
  results_cell_row hf _ _ R 49 _ (0, 0) _ hp h Tryz.underlying49 rfl (by kernel_rfl)
def boxes (s : ByteArray) (m i : Int) (vl vo : Value) (e a : Int) (va : Value) (W : World) : World :=
  (W.alloc (.cells #[.string s, .int .i64 m, .int .i64 i, vl, vo, .int .i64 e, .int .i64 a, va] 49)).alloc (.cells #[.string ⟨#[]⟩, .int .i64 0, .int .i64 0, .slice none 0 0, .slice none 0 0, .int .i64 0, .int .i64 0, .slice none 0 0] 49)
theorem boxes_facts {fb : Bool} (s : ByteArray) (m i : Int) (vl vo : Value) (e a : Int) (va : Value) (h : RO A ts fs al gl cl go co ga ca W) :
    RO A ts fs al gl cl go co ga ca (boxes s m i vl vo e a va W) ∧ Bx W.heap.size s m i vl vo e a va (boxes s m i vl vo e a va W) ∧ Bx (W.heap.size + 1) ⟨#[]⟩ 0 0 (.slice none 0 0) (.slice none 0 0) 0 0 (.slice none 0 0) (boxes s m i vl vo e a va W) ∧ KR fb W (boxes s m i vl vo e a va W) ∧ A.heap.size ≤ W.heap.size := by
  refine ⟨(h.alloc _).alloc _, (Bx.new W).alloc _, ?_, (KR.alloc W _).trans (KR.alloc _ _), h.bel.size⟩
  have := Bx.new (s := ⟨#[]⟩) (m := 0) (i := 0) (vl := .slice none 0 0) (vo := .slice none 0 0) (e := 0) (a := 0) (va := .slice none 0 0) (W.alloc (.cells #[.string s, .int .i64 m, .int .i64 i, vl, vo, .int .i64 e, .int .i64 a, va] 49))
  have hs : (W.alloc (.cells #[.string s, .int .i64 m, .int .i64 i, vl, vo, .int .i64 e, .int .i64 a, va] 49)).heap.size = W.heap.size + 1 := by simp
  rw [hs] at this
  exact this
end
def RP (fb : Bool) (A : World) (s : ByteArray) (m : Int) (W : World) (i : Int) (ts : List Tk) (fs : List Fr) (al : List Nat) (k a : Int) (v : Value) (W' : World) : Prop :=
  ∃ gl cl go co ga ca, v = lxV s m i (.slice gl ts.length cl) (.slice go fs.length co) k a (.slice ga al.length ca) ∧ RO A ts fs al gl cl go co ga ca W' ∧ KR fb W W'
section
variable {A : World} {s : ByteArray} {m : Int} {ts : List Tk} {fs : List Fr} {al : List Nat} {gl go ga : Option Addr} {cl co ca : Nat} {w : World}
set_option maxRecDepth 100000 in
set_option maxHeartbeats 1000000 in
theorem rfails_any (i : Int) (k a : Int) (h : RO A ts fs al gl cl go co ga ca w) :
    Calls Tryz.prog 44 #[lxV s m i (.slice gl ts.length cl) (.slice go fs.length co) 0 0 (.slice ga al.length ca), .int .i64 k, .int .i64 a] w fun e w' =>
      ∃ v, e = .returned v ∧ RP false A s m w i ts fs al k a v w' := by
  go_enter Tryz.func44, Tryz.ntmps44
  go_wp2_with fail
  have hR := Bx.new (s := s) (m := m) (i := i) (vl := .slice gl ts.length cl) (vo := .slice go fs.length co) (e := k) (a := a) (va := .slice ga al.length ca) (w.alloc (.cells #[.string s, .int .i64 m, .int .i64 i, .slice gl ts.length cl, .slice go fs.length co, .int .i64 k, .int .i64 a, .slice ga al.length ca] 49))
  have hs : (w.alloc (.cells #[.string s, .int .i64 m, .int .i64 i, .slice gl ts.length cl, .slice go fs.length co, .int .i64 k, .int .i64 a, .slice ga al.length ca] 49)).heap.size = w.heap.size + 1 := by simp
  rw [hs] at hR
  refine bodyPost_ret (bx_ret rfl rfl hR) rfl ?_
  exact ⟨_, rfl, gl, cl, go, co, ga, ca, rfl, (h.alloc _).alloc _, (KR.alloc _ _).trans (KR.alloc _ _)⟩
set_option maxRecDepth 100000 in
set_option maxHeartbeats 1000000 in
theorem rput_any (i : Int) (kd : Int) (t : ByteArray) (a : Int) (h : RO A ts fs al gl cl go co ga ca w) (hl : ts.length ≤ 100000) :
    Calls Tryz.prog 47 #[lxV s m i (.slice gl ts.length cl) (.slice go fs.length co) 0 0 (.slice ga al.length ca), .int .i64 kd, .string t, .int .i64 a] w fun e w' =>
      ∃ v, e = .returned v ∧ RP false A s m w i (ts ++ [(kd, t, a)]) fs al 0 0 v w' := by
  obtain ⟨i0, hii, hz0, hz1, hz2⟩ := info_parts infoTok
  have ht : ∀ (o1 o2 : Obj) (j : Nat), (((w.alloc o1).alloc o2).alloc (.cells #[.int .i64 kd, .string t, .int .i64 a] 30)).cell? ⟨w.heap.size + 1 + 1, j, none⟩ = (#[.int .i64 kd, .string t, .int .i64 a] : Array Value)[j]? := fun o1 o2 j => by
    have h1 := World.alloc_heap_new ((w.alloc o1).alloc o2) (.cells #[.int .i64 kd, .string t, .int .i64 a] 30)
    have hs : ((w.alloc o1).alloc o2).heap.size = w.heap.size + 1 + 1 := by simp
    rw [hs] at h1
    exact Lib.cell_of_heap h1 j
  obtain ⟨hro, hx, hr, hk, hA⟩ := boxes_facts (fb := false) s m i (.slice gl ts.length cl) (.slice go fs.length co) 0 0 (.slice ga al.length ca) h
  go_enter Tryz.func47, Tryz.ntmps47
  go_wp2_with (at_builtin; refine wpList_append_own _ rfl _ _ 22 rfl A.heap.size 30 i0 (.agg #[.int .i64 0, .string ⟨#[]⟩, .int .i64 0]) 3 32 Tryz.underlying22 hii hz0 hz1 hz2 rfl (by decide) _ _ _ rfl (hro.alloc _).tok ⟨w.heap.size + 1 + 1, 0, none⟩ 1 1 [.int .i64 kd, .string t, .int .i64 a] rfl rfl ?c1 ?c2 ?c3 ?c4 ?c5 ?_)
  case c1 =>
    intro j u hj
    match j, hj with
    | 0, hj => simp at hj; subst hj; simp [Addr.add, ht]
    | 1, hj => simp at hj; subst hj; simp [Addr.add, ht]
    | 2, hj => simp at hj; subst hj; simp [Addr.add, ht]
    | j + 3, hj => simp at hj
  case c2 => intro u hu; simp at hu; rcases hu with rfl | rfl | rfl <;> rfl
  case c3 => unfold maxLen; omega
  case c4 => omega
  case c5 => simp; omega
  intro v' w1 hown' hgrow _
  obtain ⟨gl', cl', rfl, hro1, hkr⟩ := (hro.alloc _).pushTok (t := (kd, t, a)) hgrow hown'
  have hx1 := (hx.alloc _).kr hkr
  have hr1 := (hr.alloc _).kr hkr
  have hk1 := (hk.trans (KR.alloc _ _)).trans hkr
  obtain ⟨d0, d1, d2, d3, d4, d5, d6, d7⟩ := hx1.cells
  have df := hx1.free
  rw [List.length_append, List.length_singleton] at *
  have hne : w.heap.size ≠ w.heap.size + 1 := by omega
  have hr2 := hr1.other hne 3 (.slice gl' (ts.length + 1) cl')
  go_wp2_with (with_reducible refine gate_lx (p := 8) rfl ?_; refine wp_fill hr2 rfl rfl rfl rfl rfl ?_; intro W3 f3 hr3)
  refine bodyPost_ret (bx_ret rfl rfl hr3) rfl ?_
  exact ⟨_, rfl, gl', cl', go, co, ga, ca, by rw [List.length_append, List.length_singleton], (hro1.bx hx1 hA _ _).fl hr2 f3 (by omega), (hk1.set (Nat.le_refl _) _ _).fl f3 (by omega)⟩
set_option maxRecDepth 100000 in
set_option maxHeartbeats 1000000 in
theorem rcloses_any (i : Int) (h : RO A ts fs al gl cl go co ga ca w) (hl : ts.length ≤ 100000) (hi : i + 1 ≤ 100000) (hi0 : 0 ≤ i) :
    Calls Tryz.prog 42 #[lxV s m i (.slice gl ts.length cl) (.slice go fs.length co) 0 0 (.slice ga al.length ca)] w fun e w' =>
      ∃ v, e = .returned v ∧ RP false A s m w (i + 1) (ts ++ [(4, ⟨#[]⟩, i)]) fs al 0 0 v w' := by
  obtain ⟨hro, hx, hr, hk, hA⟩ := boxes_facts (fb := false) s m i (.slice gl ts.length cl) (.slice go fs.length co) 0 0 (.slice ga al.length ca) h
  have hne : w.heap.size ≠ w.heap.size + 1 := by omega
  go_enter Tryz.func42, Tryz.ntmps42
  go_wp2_with fail
  refine (?_ : Calls _ _ _ (boxes s m i (.slice gl ts.length cl) (.slice go fs.length co) 0 0 (.slice ga al.length ca) w) _)
  generalize boxes s m i (.slice gl ts.length cl) (.slice go fs.length co) 0 0 (.slice ga al.length ca) w = W1 at *
  refine (rput_any i 4 ⟨#[]⟩ i hro hl).mono ?_
  rintro e' W2 ⟨v, rfl, gl2, cl2, go2, co2, ga2, ca2, rfl, hro2, hk2⟩
  have hx2 := hx.kr hk2
  have hr2 := hr.kr hk2
  go_wp2_with (first
    | (with_reducible refine gate_lx (p := 1) rfl ?_); refine wp_fill hx2 rfl rfl rfl rfl rfl ?_; intro W3 f3 hx3; obtain ⟨d0, d1, d2, d3, d4, d5, d6, d7⟩ := hx3.cells; have df := hx3.free
    | (with_reducible refine gate_lx (p := 2) rfl ?_); refine wp_fill ((hr2.fl f3 hne).other hne _ _) rfl rfl rfl rfl rfl ?_; intro W4 f4 hr4)
  refine bodyPost_ret (bx_ret rfl rfl hr4) rfl ?_
  exact ⟨_, rfl, gl2, cl2, go2, co2, ga2, ca2, by rw [List.length_append, List.length_singleton], ((hro2.fl hx2 f3 hA).bx hx3 hA _ _).fl ((hr2.fl f3 hne).other hne _ _) f4 (by omega), ((((hk.trans hk2).fl f3 (Nat.le_refl _)).set (Nat.le_refl _) _ _)).fl f4 (by omega)⟩
end
end Go.Proofs.YtcnhklcbibpjpaaGreatDoor
