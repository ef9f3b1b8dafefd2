/- A message that is handed in reads as a message; what has been read stays. -/
import Derived.Test.YtcpglgoiienhkaaGreatDoorZRow
import Derived.Test.YtcpglgoiienhkaaGreatDoorZPMsgx0
import Derived.Test.YtcpglgoiienhkaaGreatDoorZAdd
import Derived.OpenVars
import Derived.DataElems
import Derived.ChangeOld
set_option linter.unusedVariables false
set_option linter.unusedSimpArgs false

namespace Go.Proofs.YtcpglgoiienhkaaGreatDoor
open Go.ChangeShapes Go.WideShapes Go.ChangeAt Go.RowKit Go.Proofs.YtcpglgoiienhkaaGreatDoorW.PrintWords
section
variable {H : Type} {enc : TypeId × Value → H} {P : Program} {w : World} {base fuel : Nat} {spare : Nat → Bool} {held : Bool} {t : TypeId} {cs : List Value} {z : DataW H × List MemPlace}
theorem trod_int1 {k : IntKind} (ht : P.underlying t = some (.int k)) (h : DataW.trod enc P w base spare held fuel t cs = some z) : ∃ n, cs = [.int k n] := by
  cases fuel with
  | zero => simp [DataW.trod] at h
  | succ n =>
    unfold DataW.trod at h
    rw [ht] at h
    split at h <;> simp_all
theorem trod_str1 (ht : P.underlying t = some .string) (h : DataW.trod enc P w base spare held fuel t cs = some z) : ∃ s, cs = [.string s] := by
  cases fuel with
  | zero => simp [DataW.trod] at h
  | succ n =>
    unfold DataW.trod at h
    rw [ht] at h
    split at h <;> simp_all
theorem trod_bool1 (ht : P.underlying t = some .bool) (h : DataW.trod enc P w base spare held fuel t cs = some z) : ∃ b, cs = [.bool b] := by
  cases fuel with
  | zero => simp [DataW.trod] at h
  | succ n =>
    unfold DataW.trod at h
    rw [ht] at h
    split at h <;> simp_all
theorem trod_struct1 {fs : Array Field} (ht : P.underlying t = some (.struct fs)) (h : DataW.trod enc P w base spare held (fuel + 1) t cs = some z) :
    cs.length = P.cellsOf t ∧ ∀ (i : Nat) (f : Field), fs.toList[i]? = some f → ∃ y, DataW.trod enc P w base spare held fuel f.type ((cs.drop f.offset).take (P.cellsOf f.type)) = some y := by
  unfold DataW.trod at h
  rw [ht] at h
  simp only at h
  split at h
  · rename_i hl
    refine ⟨hl, fun i f hf => ?_⟩
    rw [Option.map_eq_some_iff] at h
    obtain ⟨xs, hm, _⟩ := h
    have := mapM_some_get hm i f hf
    have hlen := mapM_some_length hm
    have hi := (List.getElem?_eq_some_iff.1 hf).1
    exact ⟨xs[i]'(by omega), this.trans (List.getElem?_eq_getElem (by omega))⟩
  · cases h
theorem trod_slice1 {e : TypeId} (ht : P.underlying t = some (.slice e)) (h : DataW.trod enc P w base spare held (fuel + 1) t cs = some z) :
    cs = [.slice none 0 0] ∨ ∃ a len cap, cs = [.slice (some a) len cap] ∧ len ≤ cap ∧ cap ≤ maxLen ∧ ∀ i, i < len → ∃ c y, w.cells? base (a.add (i * P.cellsOf e)) (P.cellsOf e) = some c ∧ DataW.trod enc P w base spare held fuel e c = some y := by
  rcases cs with _ | ⟨x, _ | ⟨y, r⟩⟩
  · simp [DataW.trod, ht] at h
  · cases x <;> try (simp [DataW.trod, ht] at h; done)
    rename_i A n c
    cases A with
    | none => rcases n with _ | n <;> rcases c with _ | c <;> first | exact .inl rfl | (simp [DataW.trod, ht] at h; done)
    | some a =>
      refine .inr ⟨a, n, c, rfl, ?_⟩
      simp only [DataW.trod, ht] at h
      split at h
      · rename_i hb
        refine ⟨hb.2.1, hb.2.2, fun i hi => ?_⟩
        rw [Option.bind_eq_some_iff] at h
        obtain ⟨elems, hm, _⟩ := h
        have hlen := mapM_some_length hm
        rw [List.length_range] at hlen
        have := mapM_some_get hm i i (by simp [hi])
        rw [List.getElem?_eq_getElem (by omega)] at this
        rw [Option.bind_eq_some_iff] at this
        obtain ⟨c, h1, h2⟩ := this
        exact ⟨c, _, h1, h2⟩
      · cases h
  · simp [DataW.trod, ht] at h
end
theorem cells_P : Tryz.prog.cellsOf 42 = 7 := by kernel_rfl
theorem cells_C : Tryz.prog.cellsOf 47 = 3 := by kernel_rfl
theorem cells_M : Tryz.prog.cellsOf 24 = 1 := by kernel_rfl
theorem cells_i : Tryz.prog.cellsOf 3 = 1 := by kernel_rfl
theorem cells_s : Tryz.prog.cellsOf 9 = 1 := by kernel_rfl
theorem cells_b : Tryz.prog.cellsOf 4 = 1 := by kernel_rfl
theorem cells_sp : Tryz.prog.cellsOf 22 = 1 := by kernel_rfl
theorem cells_sc : Tryz.prog.cellsOf 40 = 1 := by kernel_rfl
theorem rows_of {α : Type} {d : Kd α} {w : World} {a : Addr} {len : Nat} (hl : len ≤ 9223372036854775807) (h : ∀ i, i < len → ∃ (p : α) (c : List Value), w.cells? 0 (a.add (i * d.sz)) d.sz = some c ∧ d.K w p c) : ∃ ps : List α, ps.length = len ∧ d.C w (some a) len ps := by
  have : ∃ f : Nat → Option α, ∀ i, i < len → ∃ (p : α) (c : List Value), f i = some p ∧ w.cells? 0 (a.add (i * d.sz)) d.sz = some c ∧ d.K w p c := by
    refine ⟨fun i => if hi : i < len then some (Classical.choose (h i hi)) else none, fun i hi => ?_⟩
    obtain ⟨c, h1, h2⟩ := Classical.choose_spec (h i hi)
    exact ⟨_, c, by simp [hi], h1, h2⟩
  obtain ⟨f, hf⟩ := this
  have hps : ∃ ps : List α, ps.length = len ∧ ∀ i, i < len → ps[i]? = f i := by
    clear hl h
    induction len with
    | zero => exact ⟨[], rfl, fun i hi => by omega⟩
    | succ n ih =>
      obtain ⟨ps, h1, h2⟩ := ih (fun i hi => hf i (by omega))
      obtain ⟨p, c, h3, _⟩ := hf n (by omega)
      refine ⟨ps ++ [p], by simp [h1], fun i hi => ?_⟩
      by_cases hin : i < n
      · rw [List.getElem?_append_left (by omega), h2 i hin]
      · obtain rfl : i = n := by omega
        rw [List.getElem?_append_right (by omega), h1, Nat.sub_self, h3]
        rfl
  obtain ⟨ps, h1, h2⟩ := hps
  refine ⟨ps, h1, h1, hl, fun hp => ⟨a, rfl, fun j p hj => ?_⟩⟩
  have hjl : j < len := by rw [← h1]; exact (List.getElem?_eq_some_iff.1 hj).1
  obtain ⟨q, c, h3, h4, h5⟩ := hf j hjl
  rw [h2 j hjl, h3] at hj
  cases hj
  obtain ⟨_, h6, h7⟩ := World.cells?_some h4
  refine ⟨c, h6, h5, fun i u hu => ?_⟩
  have := h7 i (by rw [← h6]; exact (List.getElem?_eq_some_iff.1 hu).1)
  rw [Addr.add_add] at this
  rw [this]
  exact hu
set_option maxRecDepth 100000 in
set_option maxHeartbeats 4000000 in
theorem open_all {H : Type} {enc : TypeId × Value → H} {w : World} {spare : Nat → Bool} {held : Bool} : ∀ (fuel : Nat) (cs : List Value) (z : DataW H × List MemPlace),
    DataW.trod enc Tryz.prog w 0 spare held fuel 22 cs = some z → ∃ A c ps, cs = [.slice A ps.length c] ∧ ps.length ≤ c ∧ Kd.C PMsg.k42 w A ps.length ps := by
  intro fuel
  induction fuel using Nat.strongRecOn with
  | _ fuel ih =>
  intro cs z h
  cases fuel with
  | zero => simp [DataW.trod] at h
  | succ f1 =>
  rcases trod_slice1 Tryz.underlying22 h with rfl | ⟨a, len, cap, rfl, hl, hm, hel⟩
  · exact ⟨none, 0, [], rfl, Nat.le_refl _, Kd.C_nil _ _⟩
  · have : ∃ ps : List PMsg.S42, ps.length = len ∧ Kd.C PMsg.k42 w (some a) len ps := by
      refine rows_of (by unfold maxLen at hm; omega) fun i hi => ?_
      obtain ⟨c, y, hc, hy⟩ := hel i hi
      rw [cells_P] at hc
      cases f1 with
      | zero => simp [DataW.trod] at hy
      | succ f2 =>
      obtain ⟨hlen, hfs⟩ := trod_struct1 Tryz.underlying42 hy
      rw [cells_P] at hlen
      obtain ⟨v0, v1, v2, v3, v4, v5, v6, rfl⟩ : ∃ v0 v1 v2 v3 v4 v5 v6, c = [v0, v1, v2, v3, v4, v5, v6] := by
        match c, hlen with
        | [v0, v1, v2, v3, v4, v5, v6], _ => exact ⟨_, _, _, _, _, _, _, rfl⟩
      obtain ⟨y0, g0⟩ := hfs 0 _ rfl
      obtain ⟨y1, g1⟩ := hfs 1 _ rfl
      obtain ⟨y2, g2⟩ := hfs 2 _ rfl
      obtain ⟨y3, g3⟩ := hfs 3 _ rfl
      obtain ⟨y4, g4⟩ := hfs 4 _ rfl
      obtain ⟨y5, g5⟩ := hfs 5 _ rfl
      obtain ⟨y6, g6⟩ := hfs 6 _ rfl
      clear hfs
      dsimp only at g0 g1 g2 g3 g4 g5 g6
      rw [cells_i] at g0 g3
      rw [cells_s] at g1 g2 g4 g5
      rw [cells_sc] at g6
      obtain ⟨n0, e0'⟩ := trod_int1 Tryz.underlying3 g0
      obtain ⟨n1, e1'⟩ := trod_str1 Tryz.underlying9 g1
      obtain ⟨n2, e2'⟩ := trod_str1 Tryz.underlying9 g2
      obtain ⟨n3, e3'⟩ := trod_int1 Tryz.underlying3 g3
      obtain ⟨n4, e4'⟩ := trod_str1 Tryz.underlying9 g4
      obtain ⟨n5, e5'⟩ := trod_str1 Tryz.underlying9 g5
      obtain rfl : v0 = _ := List.head_eq_of_cons_eq e0'
      obtain rfl : v1 = _ := List.head_eq_of_cons_eq e1'
      obtain rfl : v2 = _ := List.head_eq_of_cons_eq e2'
      obtain rfl : v3 = _ := List.head_eq_of_cons_eq e3'
      obtain rfl : v4 = _ := List.head_eq_of_cons_eq e4'
      obtain rfl : v5 = _ := List.head_eq_of_cons_eq e5'
      have hcs : ∃ (A6 : Option Addr) (c6 : Nat) (qs : List PMsg.S47), v6 = .slice A6 qs.length c6 ∧ qs.length ≤ c6 ∧ Kd.C PMsg.k47 w A6 qs.length qs := by
        cases f2 with
        | zero => simp [DataW.trod] at g6
        | succ f3 =>
        rcases trod_slice1 Tryz.underlying40 g6 with hs | ⟨a6, len6, cap6, hs, hl6, hm6, hel6⟩
        · obtain rfl : v6 = _ := List.head_eq_of_cons_eq hs
          exact ⟨none, 0, [], rfl, Nat.le_refl _, Kd.C_nil _ _⟩
        · obtain rfl : v6 = _ := List.head_eq_of_cons_eq hs
          have : ∃ qs : List PMsg.S47, qs.length = len6 ∧ Kd.C PMsg.k47 w (some a6) len6 qs := by
            refine rows_of (by unfold maxLen at hm6; omega) fun i hi => ?_
            obtain ⟨c, y, hc, hy⟩ := hel6 i hi
            rw [cells_C] at hc
            cases f3 with
            | zero => simp [DataW.trod] at hy
            | succ f4 =>
            obtain ⟨hlen, hfs⟩ := trod_struct1 Tryz.underlying47 hy
            rw [cells_C] at hlen
            obtain ⟨v0, v1, v2, rfl⟩ : ∃ v0 v1 v2, c = [v0, v1, v2] := by
              match c, hlen with
              | [v0, v1, v2], _ => exact ⟨_, _, _, rfl⟩
            obtain ⟨y0, g0⟩ := hfs 0 _ rfl
            obtain ⟨y1, g1⟩ := hfs 1 _ rfl
            obtain ⟨y2, g2⟩ := hfs 2 _ rfl
            clear hfs
            dsimp only at g0 g1 g2
            rw [cells_s] at g0
            rw [cells_b] at g1
            rw [cells_M] at g2
            obtain ⟨n0, e0'⟩ := trod_str1 Tryz.underlying9 g0
            obtain ⟨n1, e1'⟩ := trod_bool1 Tryz.underlying4 g1
            obtain rfl : v0 = _ := List.head_eq_of_cons_eq e0'
            obtain rfl : v1 = _ := List.head_eq_of_cons_eq e1'
            cases f4 with
            | zero => simp [DataW.trod] at g2
            | succ f5 =>
            obtain ⟨_, hfs⟩ := trod_struct1 Tryz.underlying24 g2
            obtain ⟨y3, g3⟩ := hfs 0 _ rfl
            dsimp only at g3
            rw [cells_sp] at g3
            obtain ⟨A2, c2, qs, hq, hlq, hCq⟩ := ih f5 (by omega) _ _ g3
            obtain rfl : v2 = _ := List.head_eq_of_cons_eq hq
            exact ⟨⟨n0, n1, ⟨qs⟩⟩, _, hc, PMsg.k47_mk w ⟨n0, n1, ⟨qs⟩⟩ hlq hCq⟩
          obtain ⟨qs, rfl, hC⟩ := this
          exact ⟨some a6, cap6, qs, rfl, hl6, hC⟩
      obtain ⟨A6, c6, qs, rfl, hl6, hC6⟩ := hcs
      exact ⟨⟨n0, n1, n2, n3, n4, n5, qs⟩, _, hc, PMsg.k42_mk w ⟨n0, n1, n2, n3, n4, n5, qs⟩ hl6 hC6⟩
    obtain ⟨ps, rfl, hC⟩ := this
    exact ⟨some a, cap, ps, rfl, hl, hC⟩
set_option maxRecDepth 100000 in
theorem open_msg {H : Type} {enc : TypeId × Value → H} {w : World} {r : Reach} {b0 : Nat} {sp : Nat → Bool} {held : Bool} {v : Value} {d : DataW H} {p : List MemPlace} (hval : Value.okWide Tryz.prog w r b0 24 v) (hd : DataW.Trod enc Tryz.prog w 0 sp held 24 v d p) :
    ∃ (A : Option Addr) (c : Nat) (qs : List PMsg.S42), v = .agg #[.slice A qs.length c] ∧ qs.length ≤ c ∧ Kd.C PMsg.k42 w A qs.length qs := by
  unfold Value.okWide at hval
  rw [Tryz.underlying24] at hval
  obtain ⟨cs, rfl, hsz, _⟩ := hval
  obtain ⟨fuel, hf⟩ := hd
  cases fuel with
  | zero => simp [DataW.trod] at hf
  | succ f =>
  obtain ⟨hl, hfs⟩ := trod_struct1 Tryz.underlying24 hf
  obtain ⟨y, g⟩ := hfs 0 _ rfl
  dsimp only at g
  rw [cells_sp] at g
  rw [cells_M] at hl
  obtain ⟨A, c, qs, hq, hlq, hC⟩ := open_all _ _ _ g
  refine ⟨A, c, qs, ?_, hlq, hC⟩
  have hcl : (Value.agg cs).cells.toList = cs.toList := rfl
  rw [hcl] at hl hq
  have h1 : cs.toList = [.slice A qs.length c] := by
    rw [List.drop_zero, List.take_of_length_le (by omega)] at hq
    exact hq
  congr 1
  exact Array.toList_inj.1 h1
set_option maxRecDepth 100000 in
theorem shut_msg {H : Type} {enc : TypeId × Value → H} {W W' : World} {v : Value} {d : DataW H} {p : List MemPlace} (h : DataW.Trod enc Tryz.prog W 0 (fun _ => true) true 24 v d p) (hb : Below W.heap.size W W') :
    DataW.Trod enc Tryz.prog W' 0 (fun b => decide (b < W.heap.size)) true 24 v d p := by
  obtain ⟨fuel, hf⟩ := h
  have hr : Tryz.prog.readableRec 24 = true := by kernel_rfl
  have hs : 24 < Tryz.prog.types.size := of_decide_eq_true (by kernel_rfl)
  have hp : ∀ x ∈ p, x.block < W.heap.size := fun x hx => DataW.trod_lt _ _ _ _ hf x hx
  exact ⟨fuel, DataW.trod_stays (kids_book rowLaidOut hr) (book_sized hr) (fun h => by cases h) ⟨hs, book_self _⟩ hf (fun x hx => hb.same (hp x hx)) (fun x hx => by simpa using hp x hx)⟩
end Go.Proofs.YtcpglgoiienhkaaGreatDoor
