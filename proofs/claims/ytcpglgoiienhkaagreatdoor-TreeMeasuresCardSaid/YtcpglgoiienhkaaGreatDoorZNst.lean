/- Kinds of types that are nested in each other through slices and structs: what is told of the whole nest is told of some depth of it; no conditions. -/
import Derived.Test.YtcpglgoiienhkaaGreatDoorZW
set_option linter.unusedVariables false

namespace Go.Proofs.YtcpglgoiienhkaaGreatDoorW.PrintWords
open Go.RowKit
namespace Kd
section
variable {α : Type} {F : Kd α → Kd α} {sz : Nat} {E : List Nat} {hs : ∀ n, (upto F sz E n).sz = sz} {hE : ∀ n q, q ∈ (upto F sz E n).E → q ∈ E}
structure Back {β : Type} (F : Kd α → Kd α) (sz : Nat) (E : List Nat) (hs : ∀ n, (upto F sz E n).sz = sz) (hE : ∀ n q, q ∈ (upto F sz E n).E → q ∈ E) (G : Kd α → Kd β) : Prop where
  K : ∀ {w x cs}, (G (fix F sz E hs hE)).K w x cs → ∃ n, (G (upto F sz E n)).K w x cs
  M : ∀ {w base ok x cs}, (G (fix F sz E hs hE)).M w base ok x cs → ∃ n, (G (upto F sz E n)).M w base ok x cs
theorem back_const {β : Type} (k : Kd β) : Back F sz E hs hE (fun _ => k) := ⟨fun h => ⟨0, h⟩, fun h => ⟨0, h⟩⟩
theorem back_id : Back F sz E hs hE (fun d => d) := ⟨fun h => h, fun h => h⟩
theorem back_iso {β γ : Type} {G : Kd α → Kd β} (f : γ → β) (h : Back F sz E hs hE G) : Back F sz E hs hE (fun d => iso (G d) f) := ⟨fun hk => h.K hk, fun hk => h.M hk⟩
theorem up_K (hm : Mono F) (hs : ∀ n, (upto F sz E n).sz = sz) {β : Type} {G : Kd α → Kd β} (hG : Mono G) {n m : Nat} (hnm : n ≤ m) {w x cs} (h : (G (upto F sz E n)).K w x cs) : (G (upto F sz E m)).K w x cs :=
  hG.K _ _ (by rw [hs n, hs m]) (fun _ _ _ hk => upto_K_le hm hs hnm hk) _ _ _ h
theorem up_M (hm : Mono F) (hs : ∀ n, (upto F sz E n).sz = sz) {β : Type} {G : Kd α → Kd β} (hG : Mono G) {n m : Nat} (hnm : n ≤ m) {w base ok x cs} (h : (G (upto F sz E n)).M w base ok x cs) : (G (upto F sz E m)).M w base ok x cs :=
  hG.M _ _ (by rw [hs n, hs m]) (fun _ _ _ _ _ hk => upto_M_le hm hs hnm hk) _ _ _ _ _ h
theorem to_K {β : Type} {G : Kd α → Kd β} (hG : Mono G) {n : Nat} {w x cs} (h : (G (upto F sz E n)).K w x cs) : (G (fix F sz E hs hE)).K w x cs :=
  hG.K _ (fix F sz E hs hE) (hs n) (fun w x cs hp => (⟨n, hp⟩ : ∃ n, (upto F sz E n).K w x cs)) _ _ _ h
theorem to_M {β : Type} {G : Kd α → Kd β} (hG : Mono G) {n : Nat} {w base ok x cs} (h : (G (upto F sz E n)).M w base ok x cs) : (G (fix F sz E hs hE)).M w base ok x cs :=
  hG.M _ (fix F sz E hs hE) (hs n) (fun w base ok x cs hp => (⟨n, hp⟩ : ∃ n, (upto F sz E n).M w base ok x cs)) _ _ _ _ _ h
theorem back_pair {β γ : Type} {G : Kd α → Kd β} {H : Kd α → Kd γ} (hm : Mono F) (hG : Mono G) (hH : Mono H) (bG : Back F sz E hs hE G) (bH : Back F sz E hs hE H) : Back F sz E hs hE (fun d => pair (G d) (H d)) := by
  refine ⟨?_, ?_⟩
  · rintro w x cs ⟨c0, c1, rfl, h0, h1⟩
    obtain ⟨n, h0⟩ := bG.K h0
    obtain ⟨m, h1⟩ := bH.K h1
    exact ⟨max n m, c0, c1, rfl, up_K hm hs hG (Nat.le_max_left _ _) h0, up_K hm hs hH (Nat.le_max_right _ _) h1⟩
  · rintro w base ok x cs ⟨c0, c1, rfl, h0, h1⟩
    obtain ⟨n, h0⟩ := bG.M h0
    obtain ⟨m, h1⟩ := bH.M h1
    exact ⟨max n m, c0, c1, rfl, up_M hm hs hG (Nat.le_max_left _ _) h0, up_M hm hs hH (Nat.le_max_right _ _) h1⟩
theorem back_C {β : Type} {G : Kd α → Kd β} (hm : Mono F) (hG : Mono G) (bG : Back F sz E hs hE G) {w : World} {A : Option Addr} {m : Nat} {xs : List β} (h : (G (fix F sz E hs hE)).C w A m xs) : ∃ n, (G (upto F sz E n)).C w A m xs := by
  have hsz : ∀ n, (G (upto F sz E n)).sz = (G (fix F sz E hs hE)).sz := fun n => hG.sz _ _ (hs n)
  rcases Nat.eq_zero_or_pos m with hz | hpos
  · subst hz
    exact ⟨0, h.1, h.2.1, fun hp => absurd hp (Nat.lt_irrefl 0)⟩
  · obtain ⟨ad, e, hc⟩ := h.2.2 hpos
    obtain ⟨N, hN⟩ := bounded (P := fun n j => ∀ p, xs[j]? = some p → ∃ c, c.length = (G (fix F sz E hs hE)).sz ∧ (G (upto F sz E n)).K w p c ∧ ∀ i u, c[i]? = some u → w.cell? (ad.add (j * (G (fix F sz E hs hE)).sz + i)) = some u)
      (fun n n' j hnm hp p hj => by
        obtain ⟨c, h1, h2, h3⟩ := hp p hj
        exact ⟨c, h1, up_K hm hs hG hnm h2, h3⟩) xs.length
      (fun j hj => by
        obtain ⟨c, h1, h2, h3⟩ := hc j _ (List.getElem?_eq_getElem hj)
        obtain ⟨n, h2⟩ := bG.K h2
        refine ⟨n, fun p hp => ?_⟩
        rw [List.getElem?_eq_getElem hj] at hp
        injection hp with hp
        rw [← hp]
        exact ⟨c, h1, h2, h3⟩)
    refine ⟨N, h.1, h.2.1, fun _ => ⟨ad, e, fun j p hj => ?_⟩⟩
    rw [hsz N]
    exact hN j (List.getElem?_eq_some_iff.1 hj).1 p hj
theorem back_R {β : Type} {G : Kd α → Kd β} (hm : Mono F) (hG : Mono G) (bG : Back F sz E hs hE G) {e : Nat} {w : World} {base : Nat} {ok : Nat → Prop} {v : Value} {xs : List β} (h : (G (fix F sz E hs hE)).R e w base ok v xs) : ∃ n, (G (upto F sz E n)).R e w base ok v xs := by
  have hsz : ∀ n, (G (upto F sz E n)).sz = (G (fix F sz E hs hE)).sz := fun n => hG.sz _ _ (hs n)
  obtain ⟨h0, inner, ho, hr⟩ := h
  obtain ⟨N, hN⟩ := reps_bounded (R := fun n p c => (G (upto F sz E n)).M w base (fun k => ok k ∧ some k ≠ v.ownBlock) p c) (fun n m p c hnm hp => up_M hm hs hG hnm hp) (hr.imp_ (fun _ _ hp => bG.M hp))
  refine ⟨N, h0, inner, ?_, ?_⟩
  · rw [hsz N]; exact ho
  · rw [hsz N]; exact hN
theorem back_slice {β : Type} {G : Kd α → Kd β} (e : Nat) (hm : Mono F) (hG : Mono G) (bG : Back F sz E hs hE G) : Back F sz E hs hE (fun d => slice e (G d)) := by
  refine ⟨?_, ?_⟩
  · rintro w x cs ⟨A, c, rfl, hl, hr⟩
    obtain ⟨n, hn⟩ := back_C hm hG bG hr
    exact ⟨n, A, c, rfl, hl, hn⟩
  · rintro w base ok x cs ⟨v, rfl, hr⟩
    obtain ⟨n, hn⟩ := back_R hm hG bG hr
    exact ⟨n, v, rfl, hn⟩
theorem nest_K (hm : Mono F) (bF : Back F sz E hs hE F) {w x cs} : (fix F sz E hs hE).K w x cs ↔ (F (fix F sz E hs hE)).K w x cs := by
  constructor
  · rintro ⟨n, h⟩
    cases n with
    | zero => exact h.elim
    | succ n => exact to_K hm (n := n) h
  · intro h
    obtain ⟨n, h⟩ := bF.K h
    exact ⟨n + 1, h⟩
theorem nest_M (hm : Mono F) (bF : Back F sz E hs hE F) {w base ok x cs} : (fix F sz E hs hE).M w base ok x cs ↔ (F (fix F sz E hs hE)).M w base ok x cs := by
  constructor
  · rintro ⟨n, h⟩
    cases n with
    | zero => exact h.elim
    | succ n => exact to_M hm (n := n) h
  · intro h
    obtain ⟨n, h⟩ := bF.M h
    exact ⟨n + 1, h⟩
end
end Kd
end Go.Proofs.YtcpglgoiienhkaaGreatDoorW.PrintWords
