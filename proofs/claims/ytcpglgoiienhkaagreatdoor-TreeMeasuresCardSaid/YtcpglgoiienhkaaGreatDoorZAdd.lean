/- Lemmas behind the laws of measures; no conditions. -/
import Derived.Test.YtcpglgoiienhkaaGreatDoorZPMsgx0
set_option linter.unusedVariables false
set_option linter.unusedSimpArgs false

namespace Go.Proofs.YtcpglgoiienhkaaGreatDoorW.PrintWords
open Go.RowKit
theorem Ev.now {α : Type} (r : α) : Ev (fun _ => some r) r := ⟨0, fun _ _ => rfl⟩
theorem Ev.bind {α β : Type} {g : Nat → Option α} {f : Nat → α → Option β} {a : α} {r : β} (h : Ev g a) (k : Ev (fun n => f n a) r) : Ev (fun n => (g n).bind (f n)) r := by
  obtain ⟨K, h⟩ := h
  obtain ⟨K', k⟩ := k
  refine ⟨max K K', fun n hn => ?_⟩
  have h1 := h n (by omega)
  have h2 := k n (by omega)
  simp only [h1, Option.bind_some]
  exact h2
theorem Ev.step {α : Type} {g f : Nat → Option α} {r : α} (h : ∀ k, g (k + 1) = f k) (k : Ev f r) : Ev g r := by
  obtain ⟨K, k⟩ := k
  refine ⟨K + 1, fun n hn => ?_⟩
  obtain ⟨m, rfl⟩ : ∃ m, n = m + 1 := ⟨n - 1, by omega⟩
  rw [h]
  exact k m (by omega)
theorem Ev.congr {α : Type} {g f : Nat → Option α} {r : α} (h : ∀ k, g k = f k) (k : Ev f r) : Ev g r := by
  obtain ⟨K, k⟩ := k
  exact ⟨K, fun n hn => (h n).trans (k n hn)⟩
namespace Kd
section
variable {α : Type} {d : Kd α} {w : World} {xs : List α}
theorem C_nil (d : Kd α) (w : World) : d.C w none ([] : List α).length [] := ⟨rfl, by simp, fun h => absurd h (Nat.lt_irrefl 0)⟩
theorem C_len {A : Option Addr} {n : Nat} (h : d.C w A n xs) : xs.length = n := h.1
theorem C_max {A : Option Addr} {n : Nat} (h : d.C w A n xs) : n ≤ 9223372036854775807 := h.2.1
end
end Kd
end Go.Proofs.YtcpglgoiienhkaaGreatDoorW.PrintWords
namespace Go.Proofs.YtcpglgoiienhkaaGreatDoor.PMsg
open Go.RowKit Go.Proofs.YtcpglgoiienhkaaGreatDoor.Ext0 Go.Proofs.YtcpglgoiienhkaaGreatDoorW.PrintWords Go.Proofs.YtcpglgoiienhkaaGreatDoorW.PrintLast Go.Proofs.YtcpglgoiienhkaaGreatDoorW.PrintMore
theorem k24_mk (w : World) (x : S24) {A0 : Option Addr} {c0 : Nat} (l0 : x.f0.length ≤ c0) (g0 : k42.C w A0 x.f0.length x.f0) : k24.K w x [.slice A0 x.f0.length c0] := (Kd.nest_K mono24 back24).2 ⟨A0, c0, rfl, l0, g0⟩
theorem k42_mk (w : World) (x : S42) {A6 : Option Addr} {c6 : Nat} (l6 : x.f6.length ≤ c6) (g6 : k47.C w A6 x.f6.length x.f6) : k42.K w x [.int .i64 x.f0, .string x.f1, .string x.f2, .int .i64 x.f3, .string x.f4, .string x.f5, .slice A6 x.f6.length c6] := ⟨[.int .i64 x.f0], [.string x.f1, .string x.f2, .int .i64 x.f3, .string x.f4, .string x.f5, .slice A6 x.f6.length c6], rfl, rfl, ⟨[.string x.f1], [.string x.f2, .int .i64 x.f3, .string x.f4, .string x.f5, .slice A6 x.f6.length c6], rfl, rfl, ⟨[.string x.f2], [.int .i64 x.f3, .string x.f4, .string x.f5, .slice A6 x.f6.length c6], rfl, rfl, ⟨[.int .i64 x.f3], [.string x.f4, .string x.f5, .slice A6 x.f6.length c6], rfl, rfl, ⟨[.string x.f4], [.string x.f5, .slice A6 x.f6.length c6], rfl, rfl, ⟨[.string x.f5], [.slice A6 x.f6.length c6], rfl, rfl, ⟨A6, c6, rfl, l6, g6⟩⟩⟩⟩⟩⟩⟩
theorem k47_mk (w : World) (x : S47) {A2 : Option Addr} {c2 : Nat} (l2 : x.f2.f0.length ≤ c2) (g2 : k42.C w A2 x.f2.f0.length x.f2.f0) : k47.K w x [.string x.f0, .bool x.f1, .slice A2 x.f2.f0.length c2] := ⟨[.string x.f0], [.bool x.f1, .slice A2 x.f2.f0.length c2], rfl, rfl, ⟨[.bool x.f1], [.slice A2 x.f2.f0.length c2], rfl, rfl, (k24_mk w x.f2 l2 g2)⟩⟩
end Go.Proofs.YtcpglgoiienhkaaGreatDoor.PMsg
