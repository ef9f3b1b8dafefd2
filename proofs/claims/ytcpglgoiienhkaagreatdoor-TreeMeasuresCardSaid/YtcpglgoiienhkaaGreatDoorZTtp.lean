/- Types and their words. -/
import Derived.Test.YtcpglgoiienhkaaGreatDoorZTrp
import Derived.Test.YtcpglgoiienhkaaGreatDoorZPTtyx1
set_option linter.unusedVariables false
set_option linter.unusedSimpArgs false

namespace Go.Proofs.YtcpglgoiienhkaaGreatDoor
open Go.RowKit P Go.Proofs.YtcpglgoiienhkaaGreatDoorW.PrintWords
def byTypeR (l : List UInt8) : Int × Bool := ((byTypeGo l typeWords 1 : Nat), decide (byTypeGo l typeWords 1 ≠ 0))
theorem words_at (i : Nat) (hi : i < 8) : (rdOf ByteArray.empty [(⟨#[]⟩ : ByteArray), (⟨#[110, 117, 109, 98, 101, 114]⟩ : ByteArray), (⟨#[100, 97, 116, 101]⟩ : ByteArray), (⟨#[116, 105, 109, 101]⟩ : ByteArray), (⟨#[115, 112, 101, 108, 108, 111, 117, 116]⟩ : ByteArray), (⟨#[111, 114, 100, 105, 110, 97, 108]⟩ : ByteArray), (⟨#[100, 117, 114, 97, 116, 105, 111, 110]⟩ : ByteArray), (⟨#[108, 105, 115, 116]⟩ : ByteArray)] (i : Int)).toList = typeWords.getD i [] := by
  rw [ByteArray.toList_eq]
  match i, hi with
  | 0, _ => rfl
  | 1, _ => rfl
  | 2, _ => rfl
  | 3, _ => rfl
  | 4, _ => rfl
  | 5, _ => rfl
  | 6, _ => rfl
  | 7, _ => rfl
theorem rwords_at (i : Nat) (hi : i < 8) : (rdOf ByteArray.empty [(⟨#[]⟩ : ByteArray), (⟨#[]⟩ : ByteArray), (⟨#[110, 117, 109, 98, 101, 114]⟩ : ByteArray), (⟨#[100, 97, 116, 101]⟩ : ByteArray), (⟨#[116, 105, 109, 101]⟩ : ByteArray), (⟨#[115, 112, 101, 108, 108, 111, 117, 116]⟩ : ByteArray), (⟨#[111, 114, 100, 105, 110, 97, 108]⟩ : ByteArray), (⟨#[100, 117, 114, 97, 116, 105, 111, 110]⟩ : ByteArray), (⟨#[108, 105, 115, 116]⟩ : ByteArray)] ((i : Int) + 1)).toList = typeWords.getD i [] := by
  rw [ByteArray.toList_eq]
  match i, hi with
  | 0, _ => rfl
  | 1, _ => rfl
  | 2, _ => rfl
  | 3, _ => rfl
  | 4, _ => rfl
  | 5, _ => rfl
  | 6, _ => rfl
  | 7, _ => rfl
theorem wrap_small (i : Nat) (hi : i < 100) : wrap64 ((i : Int) + 1) = ((i + 1 : Nat) : Int) := by
  unfold wrap64; omega
theorem byTypeGo_drop (l : List UInt8) (i : Nat) (hi : i < 8) : byTypeGo l (typeWords.drop i) (i + 1) = if typeWords.getD i [] = l then i + 1 else byTypeGo l (typeWords.drop (i + 1)) (i + 2) := by
  match i, hi with
  | 0, _ => rfl
  | 1, _ => rfl
  | 2, _ => rfl
  | 3, _ => rfl
  | 4, _ => rfl
  | 5, _ => rfl
  | 6, _ => rfl
  | 7, _ => rfl
theorem byType_l (w : ByteArray) : ∀ (k i : Nat), i + k = 9 → PTty.tree_ByType.l0 k w [(⟨#[]⟩ : ByteArray), (⟨#[110, 117, 109, 98, 101, 114]⟩ : ByteArray), (⟨#[100, 97, 116, 101]⟩ : ByteArray), (⟨#[116, 105, 109, 101]⟩ : ByteArray), (⟨#[115, 112, 101, 108, 108, 111, 117, 116]⟩ : ByteArray), (⟨#[111, 114, 100, 105, 110, 97, 108]⟩ : ByteArray), (⟨#[100, 117, 114, 97, 116, 105, 111, 110]⟩ : ByteArray), (⟨#[108, 105, 115, 116]⟩ : ByteArray)] 8 (i : Int) =
    (if k = 0 then none else some (((byTypeGo w.data.toList (typeWords.drop i) (i + 1) : Nat) : Int), decide (byTypeGo w.data.toList (typeWords.drop i) (i + 1) ≠ 0)) : Option (Int × Bool)) := by
  intro k
  induction k with
  | zero => intro i _; rfl
  | succ k ih =>
    intro i hi
    rw [PTty.tree_ByType.l0, if_neg (Nat.succ_ne_zero k)]
    by_cases h8 : i = 8
    · subst h8
      rw [if_neg (by decide)]
      rfl
    · have hlt : i < 8 := by omega
      rw [if_pos (by omega), if_pos (by omega), if_pos (by simp only [List.length_cons, List.length_nil]; omega), words_at i hlt, byTypeGo_drop _ i hlt, wrap_small i (by omega), ByteArray.toList_eq]
      by_cases h : typeWords.getD i [] = w.data.toList
      · rw [if_pos h, if_pos h]; simp
      · rw [if_neg h, if_neg h, ih (i + 1) (by omega), if_neg (by omega)]
theorem rbyType_l (w : ByteArray) : ∀ (k i : Nat), i + k = 9 → PTty.idiomref20_ByType.l0 k w [(⟨#[]⟩ : ByteArray), (⟨#[]⟩ : ByteArray), (⟨#[110, 117, 109, 98, 101, 114]⟩ : ByteArray), (⟨#[100, 97, 116, 101]⟩ : ByteArray), (⟨#[116, 105, 109, 101]⟩ : ByteArray), (⟨#[115, 112, 101, 108, 108, 111, 117, 116]⟩ : ByteArray), (⟨#[111, 114, 100, 105, 110, 97, 108]⟩ : ByteArray), (⟨#[100, 117, 114, 97, 116, 105, 111, 110]⟩ : ByteArray), (⟨#[108, 105, 115, 116]⟩ : ByteArray)] ((i : Int) + 1) =
    (if k = 0 then none else some (((byTypeGo w.data.toList (typeWords.drop i) (i + 1) : Nat) : Int), decide (byTypeGo w.data.toList (typeWords.drop i) (i + 1) ≠ 0)) : Option (Int × Bool)) := by
  intro k
  induction k with
  | zero => intro i _; rfl
  | succ k ih =>
    intro i hi
    rw [PTty.idiomref20_ByType.l0, if_neg (Nat.succ_ne_zero k)]
    by_cases h8 : i = 8
    · subst h8
      rw [if_neg (by decide)]
      rfl
    · have hlt : i < 8 := by omega
      have hw : wrap64 ((i : Int) + 1 + 1) = ((i + 1 : Nat) : Int) + 1 := by unfold wrap64; omega
      rw [if_pos (by simp only [List.length_cons, List.length_nil]; omega), if_pos (by omega), rwords_at i hlt, byTypeGo_drop _ i hlt, hw, ByteArray.toList_eq]
      by_cases h : typeWords.getD i [] = w.data.toList
      · rw [if_pos h, if_pos h]; simp
      · rw [if_neg h, if_neg h, ih (i + 1) (by omega), if_neg (by omega)]
theorem ByType_any (s : ByteArray) (W : World) : Calls Tryz.prog 41 #[.string s] W fun e W' => e = .returned (.tuple #[.int .i64 (byType s : Nat), .bool (decide (byType s ≠ 0))]) ∧ Below W.heap.size W W' := by
  refine PTty.tree_ByType.calls 9 s _ _ W trivial ?_
  have := byType_l s 9 0 rfl
  exact this
theorem rByType_any (s : ByteArray) (W : World) : Calls Tryz.prog 42 #[.string s] W fun e W' => e = .returned (.tuple #[.int .i64 (byType s : Nat), .bool (decide (byType s ≠ 0))]) ∧ Below W.heap.size W W' := by
  refine PTty.idiomref20_ByType.calls 9 s _ _ W trivial ?_
  have := rbyType_l s 9 0 rfl
  exact this
def typeWord (t : Int) : ByteArray := if 1 ≤ t ∧ t ≤ 8 then ⟨(typeWords.getD (t - 1).toNat []).toArray⟩ else ⟨#[]⟩
theorem type_f (t : Int) : PTty.tree_Type.f t = some (typeWord t, decide (1 ≤ t ∧ t ≤ 8)) := by
  unfold PTty.tree_Type.f typeWord
  by_cases h1 : t < 1
  · rw [if_pos h1, if_neg (by omega)]; simp; omega
  · by_cases h8 : t > 8
    · rw [if_neg h1, if_pos h8, if_neg (by omega)]; simp; omega
    · rw [if_neg h1, if_neg h8, if_pos (by omega)]
      have h : t = 1 ∨ t = 2 ∨ t = 3 ∨ t = 4 ∨ t = 5 ∨ t = 6 ∨ t = 7 ∨ t = 8 := by omega
      rcases h with rfl | rfl | rfl | rfl | rfl | rfl | rfl | rfl <;> decide +kernel
theorem rtype_f (t : Int) : PTty.idiomref20_Type.f t = some (typeWord t, decide (1 ≤ t ∧ t ≤ 8)) := by
  unfold PTty.idiomref20_Type.f typeWord
  by_cases h1 : t < 1
  · rw [if_pos h1, if_neg (by omega)]; simp; omega
  · by_cases h8 : t > 8
    · rw [if_neg h1, if_pos h8, if_neg (by omega)]; simp; omega
    · rw [if_neg h1, if_neg h8, if_pos (by omega)]
      have h : t = 1 ∨ t = 2 ∨ t = 3 ∨ t = 4 ∨ t = 5 ∨ t = 6 ∨ t = 7 ∨ t = 8 := by omega
      rcases h with rfl | rfl | rfl | rfl | rfl | rfl | rfl | rfl <;> decide +kernel
theorem Type_any (t : Int) (W : World) : Calls Tryz.prog 39 #[.int .i64 t] W fun e W' => e = .returned (.tuple #[.string (typeWord t), .bool (decide (1 ≤ t ∧ t ≤ 8))]) ∧ Below W.heap.size W W' := PTty.tree_Type.calls t _ _ W trivial (type_f t)
theorem rType_any (t : Int) (W : World) : Calls Tryz.prog 40 #[.int .i64 t] W fun e W' => e = .returned (.tuple #[.string (typeWord t), .bool (decide (1 ≤ t ∧ t ≤ 8))]) ∧ Below W.heap.size W W' := PTty.idiomref20_Type.calls t _ _ W trivial (rtype_f t)
end Go.Proofs.YtcpglgoiienhkaaGreatDoor
