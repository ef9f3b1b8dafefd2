/- What the rows' listed variables give the walks. -/
import Derived.Test.YtcpglgoiienhkaaGreatDoorRows
import Derived.Test.YtcpglgoiienhkaaGreatDoorZExt
import Derived.Lib.LaidU8
import Derived.HandedShaped
import Derived.ProofKit
import Derived.LaidMore
import Derived.OpenShut
import Derived.ShutString
import Derived.Stop.Joined
import Derived.MakeChecks
set_option linter.unusedVariables false
set_option linter.unusedSimpArgs false

namespace Go.Proofs.YtcpglgoiienhkaaGreatDoor
open Go.ChangeShapes Go.WideShapes Go.ChangeAt Go.RowKit Ext P
theorem change_and_shaped {H : Type} {enc : TypeId × Value → H} {a : Assume} {C : Checked} {os : Os} {f : FuncId} {fn : Func} {s : ChangeSpec} {conds : List PathCond} {apart fresh handsOn again : Bool} {X : World → Array Value → Prop}
    (hX : ∀ (w w' : World) (args : Array Value), w.heap = w'.heap → X w args → X w' args)
    (own : ownKnob C.prog.godebug = none) (started : os.Started) (noInit : C.prog.inits.idxOf? f = none) (hfn : C.prog.funcs[f]? = some fn)
    (witness : ∃ (w : World) (tape : Tape) (i : Input), w.os = os ∧ (w.forCall tape i).Shaped C.prog ∧ i.vars = [] ∧ Input.okWide C.prog (w.forCall tape i) .any w.heap.size f i ∧
      ((s.pre enc C.prog fn conds apart (w.forCall tape i).memory i.args ∧ X (w.forCall tape i).memory i.args) ∧ sizedMet enc C.prog fn (OpenSpec.ofChange s) apart (w.forCall tape i).memory i.args) ∧ a.holds C.prog (lone (Frame.enter C.prog f i.args .normal) [] (w.forCall tape i)))
    (contract : ∀ (W : World) (base : Nat) (args : Array Value) (ds gs : List (DataW H)) (before : List MemPlace),
      (∀ (j : Nat) t v, fn.params[j]? = some t → args[j]? = some v → Value.okWide C.prog W .any base t v) →
      DataW.Whole enc C.prog fn.params.toList s.vars apart W args.toList ds gs before →
      X W args → W.ShapedOpen C.prog →
      Calls C.prog f args W fun e W' => ∃ v, e = .returned v ∧ s.post enc C.prog fn apart fresh handsOn again W args v W') :
    ReturnsInHanded a C os f .any (fun w args => (s.pre enc C.prog fn conds apart w args ∧ X w args) ∧ sizedMet enc C.prog fn (OpenSpec.ofChange s) apart w args) (s.post enc C.prog fn apart fresh handsOn again) := by
  refine returnsInHanded_of_calls own started noInit witness ?_
  intro w tape i _ hsh _ hok hpre hholds
  obtain ⟨_, _, _, fn', hfn', _, _, _, _, hval⟩ := hok
  have e : fn' = fn := Option.some.inj (hfn'.symm.trans hfn)
  subst e
  obtain ⟨⟨⟨ds, gs, before, hw, hc⟩, hx⟩, hz⟩ := hpre
  have hw' := DataW.Whole.of_heap (w' := w.forCall tape i) (by rfl) hw
  refine (contract (w.forCall tape i) w.heap.size i.args ds gs before hval hw' (hX _ _ _ (by rfl) hx) hsh).mono fun e W' ⟨v, he, hp⟩ => ?_
  subst he
  exact ChangeSpec.post_blind hp
theorem trod_iface1 {H : Type} {enc : TypeId × Value → H} {P : Program} {w : World} {base : Nat} {spare : Nat → Bool} {held : Bool} {fuel : Nat} {t : TypeId} {cs : List Value} {ms : Array (String × TypeId)} {n : String} {d : DataW H} {p : List MemPlace}
    (ht : P.underlying t = some (.interface ms)) (h : DataW.trod enc P w base spare held fuel t cs = some (.iface n d, p)) : ∃ u y, cs = [.iface u y] := by
  cases fuel with
  | zero => simp [DataW.trod] at h
  | succ k =>
    unfold DataW.trod at h
    rw [ht] at h
    split at h <;> simp_all
theorem rowOwn : ownKnob Tryz.prog.godebug = none := by kernel_rfl
theorem rowLaidOut : laidOutB Tryz.prog = true := by kernel_rfl
theorem var_iface {W : World} {name n : String} {d : DataW Unit} {g : Nat} (hg : Tryz.prog.globalNamed name = some g) (hy : (Tryz.prog.globals[g]?).map (·.type) = some 93) (h : Lib.VarReads Tryz.prog W name (.iface n d)) :
    ∃ tp p, W.var? Tryz.prog name = some #[.iface tp p] := by
  obtain ⟨g', t, cs, fuel, p, h1, h2, h3, h4⟩ := h
  obtain rfl := Option.some.inj (hg.symm.trans h1)
  obtain rfl := Option.some.inj (hy.symm.trans h2)
  obtain ⟨u, y, hc⟩ := trod_iface1 Tryz.underlying93 h4
  exact ⟨u, y, by rw [h3]; congr 1; rw [← Array.toList_inj]; exact hc⟩
theorem var_tab {W : World} {name : String} {k : IntKind} {zs : List Int} {g : Nat} {t e : TypeId} {n : Nat} (hg : Tryz.prog.globalNamed name = some g) (hty : (Tryz.prog.globals[g]?).map (·.type) = some t)
    (ht : Tryz.prog.underlying t = some (.array n e)) (he : Tryz.prog.underlying e = some (.int k)) (hce : Tryz.prog.cellsOf e = 1) (hct : Tryz.prog.cellsOf t = n) (h : Lib.VarReads Tryz.prog W name (Lib.tabData k zs)) : Lib.TabIs Tryz.prog W name k zs := by
  obtain ⟨g', t', cs, fuel, p, h1, h2, h3, h4⟩ := h
  obtain rfl := Option.some.inj (hg.symm.trans h1)
  obtain rfl := Option.some.inj (hty.symm.trans h2)
  unfold Lib.TabIs
  rw [h3, ← Lib.cells_of_tab ht he hce hct h4]
theorem rowMaxLen : ∀ W : World, W.ShapedOpen Tryz.prog → ∃ m, W.cell? ⟨5, 0, none⟩ = some (.int .i64 m) := fun w h =>
  Go.Proofs.cell_of_shapedOpen_int (zero := #[.int .i64 0]) (t := 3) h (of_decide_eq_true (by kernel_rfl)) (by kernel_rfl) rfl (by kernel_rfl) (by kernel_rfl) Tryz.underlying3
def rowLaid : List (String × DataW Unit) := Rows.treeTypesRow.laid
theorem eqPow : (Rows.laid_internal_strconv_uint64pow10 : DataW Unit) = Lib.tabData .u64 Lib.pow10Tab := by kernel_rfl
theorem eqAcc : (Rows.laid_unicode_utf8_acceptRanges : DataW Unit) = Lib.acceptData := by kernel_rfl
theorem eqFst : (Rows.laid_unicode_utf8_first : DataW Unit) = Lib.firstData := by kernel_rfl
theorem gLast : Tryz.prog.globalNamed "math/bits.deBruijn64tab" = some 7 := by kernel_rfl
theorem glH_of {W : World} (hL : laidMetH Tryz.prog rowLaid W) (hsh : W.ShapedOpen Tryz.prog) : GlH W := by
  rw [MakeChecks.laidMetH_plain _ _ _ (by kernel_rfl)] at hL
  have r : ∀ n d, (n, d) ∈ rowLaid → Lib.VarReads Tryz.prog W n d := fun n d hm => Lib.laidMet.reads hL hm
  have r1 := r "math/bits.deBruijn64tab" _ (.tail _ (.head _))
  have r3 := r "internal/strconv.uint64pow10" _ (.tail _ (.tail _ (.head _)))
  have r4 := r "unicode/utf8.acceptRanges" _ (.tail _ (.tail _ (.tail _ (.head _))))
  have r5 := r "strconv.ErrRange" _ (.tail _ (.tail _ (.tail _ (.tail _ (.head _)))))
  have r6 := r "strconv.ErrSyntax" _ (.tail _ (.tail _ (.tail _ (.tail _ (.tail _ (.head _))))))
  have r7 := r "unicode/utf8.first" _ (.tail _ (.tail _ (.tail _ (.tail _ (.tail _ (.tail _ (.head _)))))))
  rw [eqPow] at r3
  rw [eqAcc] at r4
  rw [eqFst] at r7
  refine ⟨⟨?_, rowMaxLen W hsh, ?_, ?_, ?_⟩, ?_⟩
  · exact utf8Tabs_of_reads Tryz.lays260 ⟨by kernel_rfl, by kernel_rfl, by kernel_rfl, by kernel_rfl, by kernel_rfl, by kernel_rfl, by kernel_rfl⟩ r7 r4
  · exact var_tab gl_pow (t := 218) (e := 191) (by kernel_rfl) Tryz.underlying218 Tryz.underlying191 (by kernel_rfl) (by kernel_rfl) r3
  · exact var_iface gl_syn (by kernel_rfl) r6
  · exact var_iface gl_ran (by kernel_rfl) r5
  · obtain ⟨g, t, cs, fuel, p, h1, h2, h3, h4⟩ := r1
    obtain rfl := Option.some.inj (gLast.symm.trans h1)
    have h5 : ∃ c T fz, W.heap[7]? = some (.cells c T fz) := by
      unfold World.var? at h3
      rw [gLast] at h3
      simp only [Option.bind_some] at h3
      split at h3
      · exact ⟨_, _, _, by assumption⟩
      · cases h3
    obtain ⟨c, T, fz, h6⟩ := h5
    have := (Array.getElem?_eq_some_iff.1 h6).1
    omega
noncomputable def rowW (os : Os) : World :=
  let w0 := World.doorLaid Tryz.prog 400 os
  { w0 with heap := w0.heap.modify 0 fun
      | .cells _ t fz => .cells (Lib.firstTab.map (Value.int .u8)).toArray t fz
      | o => o }
theorem door_met (os : Os) (args : Array Value) : laidMetH Tryz.prog rowLaid ((rowW os).forCall (fun _ _ => 0) ⟨#[], args, []⟩).memory :=
  laidMetH_of_parts3 (fuel := 8) (laidMet_of_run' 8 (by kernel_rfl) (by kernel_rfl)) (by kernel_rfl) (by kernel_rfl)
theorem door_shaped (os : Os) (args : Array Value) : ((rowW os).forCall (fun _ _ => 0) ⟨#[], args, []⟩).Shaped Tryz.prog := World.shaped_of_RefB (by kernel_rfl) (by kernel_rfl)
end Go.Proofs.YtcpglgoiienhkaaGreatDoor
