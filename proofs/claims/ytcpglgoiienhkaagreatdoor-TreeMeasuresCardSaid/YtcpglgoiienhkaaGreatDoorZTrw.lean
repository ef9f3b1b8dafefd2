/- The reader of tokens: its block, its tokens, its steps. -/
import Derived.Test.YtcpglgoiienhkaaGreatDoorZTrp
import Derived.Test.YtcpglgoiienhkaaGreatDoorZMF
import Derived.Deep.DeepMust
set_option linter.unusedVariables false
set_option linter.unusedSimpArgs false

namespace Go.Proofs.YtcpglgoiienhkaaGreatDoor
open Go.RowKit Go.Shelf P Ext Go.Proofs.YtcpglgoiienhkaaGreatDoorW.PrintWords
abbrev Stp (X : Nat) (W W' : World) : Prop := W.grownBy W' (some X)
theorem Stp.refl (X : Nat) (W : World) : Stp X W W := grown_of_below (Below.refl _ _) _
theorem Stp.trans {X : Nat} {A W W' : World} (h : Stp X A W) (h' : Stp X W W') : Stp X A W' :=
  ⟨h'.os.trans h.os, h'.tape.trans h.tape, h'.output.trans h.output, Nat.le_trans h.size h'.size, fun i hi hr => (h'.block i (Nat.lt_of_lt_of_le hi h.size) hr).trans (h.block i hi hr)⟩
theorem Stp.below {X : Nat} {A W W' : World} (h : Stp X A W) (h' : Below W.heap.size W W') : Stp X A W' := h.trans (grown_of_below h' _)
theorem Stp.of_below {X : Nat} {A W : World} (h' : Below A.heap.size A W) : Stp X A W := grown_of_below h' _
theorem Stp.grown {X : Nat} {A W W' : World} (h : Stp X A W) {row : Option Nat} (h' : W.grownBy W' row) (hr : ∀ k, row = some k → A.heap.size ≤ k) : Stp X A W' :=
  ⟨h'.os.trans h.os, h'.tape.trans h.tape, h'.output.trans h.output, Nat.le_trans h.size h'.size, fun i hi hne => (h'.block i (Nat.lt_of_lt_of_le hi h.size) (fun e => by have := hr i e.symm; omega)).trans (h.block i hi hne)⟩
theorem Stp.setCell (X j : Nat) (v : Value) (W : World) : Stp X W (W.setCell ⟨X, j, none⟩ v) := by
  refine ⟨?_, ?_, ?_, ?_, fun i hi hne => Below.heap_setCell _ _ _ _ (fun e => hne (by dsimp only at e; rw [e]))⟩
  all_goals first | rfl | simp
theorem row_set {W : World} {X : Nat} {c : Array Value} {T : TypeId} (hb : W.heap[X]? = some (.cells c T (0, 0))) (cs : Array Value) : Stp X W (W.setRow X cs) ∧ (W.setRow X cs).heap[X]? = some (.cells cs T (0, 0)) := by
  refine ⟨⟨rfl, rfl, rfl, by simp [World.setRow], fun j _ hj => ?_⟩, ?_⟩
  · have : j ≠ X := fun e => hj (by rw [e])
    simp [World.setRow, Array.getElem?_modify, Ne.symm this]
  · simp [World.setRow, Array.getElem?_modify, hb]
theorem wp_row {ops : Array Oper} {rest : List Oper} {o : Oper} {a : Act} {Q : Exit → Act → World → Prop} {W : World} {X : Nat} {T : TypeId} {cs0 : Array Value} (hb : W.heap[X]? = some (.cells cs0 T (0, 0))) (hgd : o.guard = none) {x y : Operand} (ho : o.op = .store T x y) (hd : o.dst = none)
    (hx : a.eval x = .pointer (some ⟨X, 0, none⟩)) {cs : Array Value} (hy : a.eval y = .agg cs) (hi : (Tryz.prog.info? T).map (·.size) = some cs.size) (hold : cs0.size = cs.size) (h1 : cs.all (·.oneCell') = true)
    (h : ∀ W', Stp X W W' → W'.heap[X]? = some (.cells cs T (0, 0)) → wpList Tryz.prog ops Q rest a W') : wpList Tryz.prog ops Q (o :: rest) a W := by
  obtain ⟨h3, h2⟩ := row_set hb cs
  exact wpList_store_row hgd T x y ho X _ hx hy T _ hb hi hold h1 (by rw [hd]; exact h _ h3 h2)
theorem results_row {fn : Func} {p : Tmp} {T : TypeId} (hf : fn.results = #[.cell p T]) {tmps : Array Value} {W : World} {R : Nat} {cs : Array Value} {d : TypeDesc} (hp : tmps.getD p undef = .pointer (some ⟨R, 0, none⟩)) (hb : W.heap[R]? = some (.cells cs T (0, 0)))
    (hu : Tryz.prog.underlying T = some d) (hd : (match d with | .struct _ | .array _ _ => true | _ => false) = true) (hi : (Tryz.prog.info? T).map (·.size) = some cs.size) : (results fn tmps).run Tryz.prog W = .ok (.agg cs) W := by
  refine results_cell_row hf _ _ R T _ (0, 0) _ hp hb hu ?_ hi
  cases d <;> first | rfl | exact hd
theorem two_allocs (W : World) (o1 o2 : Obj) : ((W.alloc o1).alloc o2).heap[W.heap.size]? = some o1 ∧ ((W.alloc o1).alloc o2).heap[W.heap.size + 1]? = some o2 ∧ Below W.heap.size W ((W.alloc o1).alloc o2) := by
  have hb1 : Below W.heap.size W (W.alloc o1) := (Below.refl _ W).alloc (Nat.le_refl _) _
  have h1 := World.alloc_heap_new W o1
  have hs1 : (W.alloc o1).heap.size = W.heap.size + 1 := by simp
  generalize W.alloc o1 = w1 at *
  have hb2 : Below w1.heap.size w1 (w1.alloc o2) := (Below.refl _ w1).alloc (Nat.le_refl _) _
  have h2 := World.alloc_heap_new w1 o2
  generalize w1.alloc o2 = w2 at *
  rw [hs1] at h2
  exact ⟨(hb2.block _ (by omega)).trans h1, h2, hb1.trans (hb2.mono (by omega))⟩
theorem Below.drew' {n : Nat} {A W : World} (h : Below n A W) : Below n A W.drew := ⟨h.os, h.tape, h.output, h.size, h.block⟩
structure Rd (X : Nat) (v : Value) (ts : List Tk) (i n : Nat) (pl e : Int) (W : World) : Prop where
  blk : W.heap[X]? = some (.cells #[v, .int .i64 i, .int .i64 n, .int .i64 pl, .int .i64 e] 74 (0, 0))
  row : ∃ b, W.ownsRow b 111 3 v ts.length (tkCells ts)
  len : ts.length ≤ 65536
  fit : i ≤ ts.length
  cap : n ≤ 4096
  small : ∀ t, t ∈ ts → t.2.1.size ≤ 200000
section
variable {X : Nat} {v : Value} {ts : List Tk} {i n : Nat} {pl e : Int} {W W' : World}
theorem Rd.lt (h : Rd X v ts i n pl e W) : X < W.heap.size := blk_lt h.blk
theorem Rd.ne (h : Rd X v ts i n pl e W) : some X ≠ v.ownBlock := by
  obtain ⟨b, hr⟩ := h.row
  exact own_ne hr h.blk (by decide)
theorem Rd.vlt (h : Rd X v ts i n pl e W) : ∀ k, v.ownBlock = some k → k < W.heap.size := by
  obtain ⟨b, hr⟩ := h.row
  exact own_lt hr
theorem Rd.keep (h : Rd X v ts i n pl e W) {row : Option Nat} (hg : W.grownBy W' row) (hr : ∀ k, row = some k → W.heap.size ≤ k ∨ (k ≠ X ∧ some k ≠ v.ownBlock)) : Rd X v ts i n pl e W' := by
  have hX : some X ≠ row := fun e => by
    rcases hr X e.symm with h1 | h1
    · have := h.lt; omega
    · exact h1.1 rfl
  refine ⟨blk_grown h.blk hg hX, ?_, h.len, h.fit, h.cap, h.small⟩
  obtain ⟨b, ho⟩ := h.row
  refine ⟨b, own_move ho fun k hk => hg.block k (h.vlt k hk) (fun e => ?_)⟩
  rcases hr k e.symm with h1 | h1
  · have := h.vlt k hk; omega
  · exact h1.2 hk.symm
theorem Rd.below (h : Rd X v ts i n pl e W) (hb : Below W.heap.size W W') : Rd X v ts i n pl e W' := h.keep (grown_of_below hb none) (fun k e => by cases e)
theorem Rd.set (h : Rd X v ts i n pl e W) {i' n' : Nat} {pl' e' : Int} {W' : World} (hg : Stp X W W') (hb : W'.heap[X]? = some (.cells #[v, .int .i64 i', .int .i64 n', .int .i64 pl', .int .i64 e'] 74 (0, 0))) (hf : i' ≤ ts.length) (hn : n' ≤ 4096) : Rd X v ts i' n' pl' e' W' := by
  refine ⟨hb, ?_, h.len, hf, hn, h.small⟩
  obtain ⟨b, ho⟩ := h.row
  exact ⟨b, own_move ho fun k hk => hg.block k (h.vlt k hk) (fun e => h.ne (e.symm.trans hk.symm))⟩
theorem Rd.cells (h : Rd X v ts i n pl e W) : W.cell? ⟨X, 0, none⟩ = some v ∧ W.cell? ⟨X, 1, none⟩ = some (.int .i64 i) ∧ W.cell? ⟨X, 2, none⟩ = some (.int .i64 n) ∧ W.cell? ⟨X, 3, none⟩ = some (.int .i64 pl) ∧ W.cell? ⟨X, 4, none⟩ = some (.int .i64 e) ∧ (∀ j, W.frozen? ⟨X, j, none⟩ = false) := by
  have hc : ∀ j, W.cell? ⟨X, j, none⟩ = (#[v, .int .i64 i, .int .i64 n, .int .i64 pl, .int .i64 e] : Array Value)[j]? := fun j => blk_cell h.blk j
  exact ⟨by rw [hc]; rfl, by rw [hc]; rfl, by rw [hc]; rfl, by rw [hc]; rfl, by rw [hc]; rfl, fun j => blk_frozen h.blk j⟩
theorem tkCells_at : ∀ (ts : List Tk) (i : Nat) (t : Tk), ts[i]? = some t → (tkCells ts)[i * 3]? = some (.int .i64 t.1) ∧ (tkCells ts)[i * 3 + 1]? = some (.string t.2.1) ∧ (tkCells ts)[i * 3 + 2]? = some (.int .i64 t.2.2) := by
  intro ts
  induction ts with
  | nil => intro i t h; simp at h
  | cons u r ih =>
    intro i t h
    have hc : tkCells (u :: r) = .int .i64 u.1 :: .string u.2.1 :: .int .i64 u.2.2 :: tkCells r := rfl
    cases i with
    | zero =>
      simp only [List.getElem?_cons_zero, Option.some.injEq] at h
      subst h
      rw [hc]
      exact ⟨rfl, rfl, rfl⟩
    | succ i =>
      have := ih i t (by simpa using h)
      rw [hc, show (i + 1) * 3 = i * 3 + 3 by omega]
      exact this
theorem tkCells_len (ts : List Tk) : (tkCells ts).length = ts.length * 3 := by
  induction ts with
  | nil => rfl
  | cons u r ih =>
    have hc : tkCells (u :: r) = .int .i64 u.1 :: .string u.2.1 :: .int .i64 u.2.2 :: tkCells r := rfl
    rw [hc, List.length_cons, List.length_cons, List.length_cons, ih, List.length_cons]
    omega
theorem Rd.tok (h : Rd X v ts i n pl e W) {j : Nat} {t : Tk} (ht : ts[j]? = some t) :
    ∃ g c, v = .slice (some ⟨g, 0, none⟩) ts.length c ∧ g < W.heap.size ∧ W.cell? ⟨g, j * 3, none⟩ = some (.int .i64 t.1) ∧ W.cell? ⟨g, j * 3 + 1, none⟩ = some (.string t.2.1) ∧ W.cell? ⟨g, j * 3 + 2, none⟩ = some (.int .i64 t.2.2) := by
  obtain ⟨b, hx, ho⟩ := h.row
  have hl := (List.getElem?_eq_some_iff.1 ht).1
  rcases ho with ⟨rfl, h0⟩ | ⟨g, cap, cur, rfl, hb, hh, h1, h2, h3, h4⟩
  · omega
  · have hc : ∀ q u, q < ts.length * 3 → (tkCells ts)[q]? = some u → W.cell? ⟨g, q, none⟩ = some u := fun q u hq hu => by
      rw [blk_cell hh q, ← Array.getElem?_toList]
      rw [← h4, List.getElem?_take_of_lt (by simpa using hq)] at hu
      exact hu
    obtain ⟨t0, t1, t2⟩ := tkCells_at ts j t ht
    exact ⟨g, cap, rfl, blk_lt hh, hc _ _ (by omega) t0, hc _ _ (by omega) t1, hc _ _ (by omega) t2⟩
theorem Rd.form (h : Rd X v ts i n pl e W) : ∃ a c, v = .slice a ts.length c := by
  obtain ⟨b, ho⟩ := h.row
  obtain ⟨A, c, e⟩ := own_slice ho
  exact ⟨A, c, e⟩
end
def kindV (ts : List Tk) (i : Nat) (e : Int) : Int := if e = 0 then kdAt ts i else 0
section
variable {X : Nat} {v : Value} {ts : List Tk} {i n : Nat} {pl e : Int} {W W' : World}
theorem Rd.drewN (h : Rd X v ts i n pl e W) (k : Nat) : Rd X v ts i n pl e (W.drewN k) := h.below (Below.drewN' (Below.refl _ W) k)
set_option maxHeartbeats 2000000 in
theorem kind_any (h : Rd X v ts i n pl e W) : Calls Tryz.prog 77 #[.pointer (some ⟨X, 0, none⟩)] W fun e' W' => e' = .returned (.int .i64 (kindV ts i e)) ∧ Drawn0 W W' := by
  obtain ⟨a, c, rfl⟩ := h.form
  have hlen := h.len
  obtain ⟨c0, c1, c2, c3, c4, f⟩ := h.cells
  by_cases he : e = 0
  · subst he
    have e1 : ((0 : Int) != 0) = false := rfl
    by_cases hi : ts.length ≤ i
    · have e2 : decide (ts.length ≤ i) = true := by simpa using hi
      have HF : Hid (kindV ts i 0 = 0) := Lib.hid (by rw [kindV, if_pos rfl, kdAt, List.getElem?_eq_none hi])
      go_enter Tryz.func77, Tryz.ntmps77
      go_wp2_with fail
      go_quiet (fail)
      go_wp2_with fail
      go_ret
      rw [HF.out]
      exact ⟨rfl, ⟨⟨_, rfl⟩⟩⟩
    · have e2 : decide (ts.length ≤ i) = false := by simpa using hi
      have hlt : i < ts.length := by omega
      have ht : ts[i]? = some ts[i] := List.getElem?_eq_getElem hlt
      have HF : Hid (kindV ts i 0 = ts[i].1) := Lib.hid (by rw [kindV, if_pos rfl, kdAt, ht])
      have HT := Lib.hid ht
      clear hi ht
      go_enter Tryz.func77, Tryz.ntmps77
      go_wp2_with fail
      go_quiet (fail)
      have hd : Drawn0 W (W.drewN nq) := ⟨⟨_, rfl⟩⟩
      have h2 := h.drewN nq
      generalize W.drewN nq = wq at *
      obtain ⟨c0, c1, c2, c3, c4, f⟩ := h2.cells
      obtain ⟨g, c', hv, hg, t0, t1, t2⟩ := h2.tok HT.out
      cases hv
      go_wp2_with fail
      go_quiet (fail)
      go_wp2_with fail
      go_ret
      rw [HF.out]
      exact ⟨rfl, hd.step _⟩
  · have e1 : (e != 0) = true := by simpa using he
    have HF : Hid (kindV ts i e = 0) := Lib.hid (by rw [kindV, if_neg he])
    go_enter Tryz.func77, Tryz.ntmps77
    go_wp2_with fail
    go_quiet (fail)
    go_wp2_with fail
    go_ret
    rw [HF.out]
    exact ⟨rfl, ⟨⟨_, rfl⟩⟩⟩
set_option maxHeartbeats 2000000 in
theorem fails_rd (h : Rd X v ts i n pl 0 W) (k at_ : Int) : Calls Tryz.prog 79 #[.pointer (some ⟨X, 0, none⟩), .int .i64 k, .int .i64 at_] W fun e' W' => e' = .returned (.tuple #[]) ∧ Rd X v ts i n at_ k W' ∧ Stp X W W' := by
  obtain ⟨c0, c1, c2, c3, c4, f⟩ := h.cells
  go_enter Tryz.func79, Tryz.ntmps79
  go_wp2
  go_end0
  refine ⟨rfl, ?_, ?_⟩
  · refine h.set ((Stp.setCell X 4 _ W).trans (Stp.setCell X 3 _ _)) ?_ h.fit h.cap
    exact blk_set (blk_set h.blk 4 (.int .i64 k)) 3 (.int .i64 at_)
  · exact (Stp.setCell X 4 _ W).trans (Stp.setCell X 3 _ _)
set_option maxHeartbeats 2000000 in
theorem next_any (h : Rd X v ts i n pl e W) {t : Tk} (ht : ts[i]? = some t) : Calls Tryz.prog 78 #[.pointer (some ⟨X, 0, none⟩)] W fun e' W' => e' = .returned (tkV t) ∧ Rd X v ts (i + 1) n pl e W' ∧ Stp X W W' := by
  have hlt := (List.getElem?_eq_some_iff.1 ht).1
  have hlen := h.len
  obtain ⟨c0, c1, c2, c3, c4, f⟩ := h.cells
  obtain ⟨g, c', hv, hg, t0, t1, t2⟩ := h.tok ht
  subst hv
  go_enter Tryz.func78, Tryz.ntmps78
  go_wp2_with fail
  go_region_held3 (fun w' => w'.cell? ⟨X, 0, none⟩ = some (.slice (some ⟨g, 0, none⟩) ts.length c') ∧ w'.cell? ⟨X, 1, none⟩ = some (.int .i64 i) ∧ w'.cell? ⟨g, i * 3, none⟩ = some (.int .i64 t.1) ∧ w'.cell? ⟨g, i * 3 + 1, none⟩ = some (.string t.2.1) ∧ w'.cell? ⟨g, i * 3 + 2, none⟩ = some (.int .i64 t.2.2))
    (first | go_keep) (first | fail)
  obtain ⟨b1, b2, hb⟩ := two_allocs W (.cells #[.int .i64 0, .string ⟨#[]⟩, .int .i64 0] 111) (.cells #[.int .i64 t.1, .string t.2.1, .int .i64 t.2.2] 111)
  replace hb := Below.drew' hb
  have hr := h.below hb
  have b1' : (((W.alloc (.cells #[.int .i64 0, .string ⟨#[]⟩, .int .i64 0] 111)).alloc (.cells #[.int .i64 t.1, .string t.2.1, .int .i64 t.2.2] 111)).drew).heap[W.heap.size]? = _ := b1
  have b2' : (((W.alloc (.cells #[.int .i64 0, .string ⟨#[]⟩, .int .i64 0] 111)).alloc (.cells #[.int .i64 t.1, .string t.2.1, .int .i64 t.2.2] 111)).drew).heap[W.heap.size + 1]? = _ := b2
  clear b1 b2 c0 c1 c2 c3 c4 f t0 t1 t2
  generalize ((W.alloc (.cells #[.int .i64 0, .string ⟨#[]⟩, .int .i64 0] 111)).alloc (.cells #[.int .i64 t.1, .string t.2.1, .int .i64 t.2.2] 111)).drew = W1 at *
  have hX := h.lt
  have hs := Stp.of_below (X := X) hb
  have hst : Stp X W1 (W1.setCell ⟨X, 1, none⟩ (.int .i64 ((i : Int) + 1))) := Stp.setCell X 1 _ W1
  have hr2 : Rd X (.slice (some ⟨g, 0, none⟩) ts.length c') ts (i + 1) n pl e (W1.setCell ⟨X, 1, none⟩ (.int .i64 ((i : Int) + 1))) := hr.set hst (blk_set hr.blk 1 _) hlt h.cap
  have k1 := blk_grown b1' hst (by simp; omega)
  have k2 := blk_grown b2' hst (by simp; omega)
  obtain ⟨c0, c1, c2, c3, c4, f⟩ := hr.cells
  have q0 : (W1.setCell ⟨X, 1, none⟩ (.int .i64 ((i : Int) + 1))).cell? ⟨W.heap.size + 1, 0, none⟩ = some (.int .i64 t.1) := blk_cell k2 0
  have q1 : (W1.setCell ⟨X, 1, none⟩ (.int .i64 ((i : Int) + 1))).cell? ⟨W.heap.size + 1, 1, none⟩ = some (.string t.2.1) := blk_cell k2 1
  have q2 : (W1.setCell ⟨X, 1, none⟩ (.int .i64 ((i : Int) + 1))).cell? ⟨W.heap.size + 1, 2, none⟩ = some (.int .i64 t.2.2) := blk_cell k2 2
  clear c0 c1 c2 c3 c4
  have HK1 := Lib.hid k1
  have HS2 := Lib.hid (hs.trans hst)
  have HR2 := Lib.hid hr2
  clear k1 k2 hst hr2 b1' b2' hr hs hb
  go_wp2_with ((with_reducible refine gate_store (t := 111) (p := 2) rfl ?_); refine wp_row HK1.out rfl rfl rfl rfl rfl (by kernel_rfl) rfl (by simp [Value.oneCell']) ?_; intro W3 s3 b3)
  refine bodyPost_ret (results_row rfl rfl b3 Tryz.underlying111 rfl (by kernel_rfl)) rfl ⟨rfl, ?_, ?_⟩
  · exact HR2.out.keep s3 fun k hk => by
      cases hk
      exact .inr ⟨by omega, fun e => by have := h.vlt _ e.symm; omega⟩
  · exact HS2.out.grown s3 fun k hk => by cases hk; exact Nat.le_refl _
end
end Go.Proofs.YtcpglgoiienhkaaGreatDoor
