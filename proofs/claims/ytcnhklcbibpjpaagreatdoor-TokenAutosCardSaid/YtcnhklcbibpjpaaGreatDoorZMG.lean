/- Lemmas behind the laws of the tokens; no conditions. -/
import Derived.Test.YtcnhklcbibpjpaaGreatDoorZMF
import Derived.Lib.Replace
import Derived.Lib.IndexBytes
import Derived.Test.YtcnhklcbibpjpaaGreatDoorZMC
import Derived.Test.YtcnhklcbibpjpaaGreatDoorZPQ
set_option linter.unusedVariables false
set_option linter.unusedSimpArgs false

namespace Go.Proofs.YtcnhklcbibpjpaaGreatDoor
open Go.RowKit P Ext
end Go.Proofs.YtcnhklcbibpjpaaGreatDoor
namespace Go.Proofs.YtcnhklcbibpjpaaGreatDoor
open Go.RowKit P Ext
structure BK (A : World) (acc : List UInt8) (W : World) : Prop where
  bd : Lib.IsBuilderF 54 5 A.heap.size A.heap.size (Lib.byteCells acc) W
  bel : Below A.heap.size A W
  lt : A.heap.size < W.heap.size
section
variable {A W : World} {acc : List UInt8}
theorem BK.drewN (h : BK A acc W) (k : Nat) : BK A acc (W.drewN k) := ⟨h.bd, Below.drewN' h.bel k, h.lt⟩
theorem BK.new (A : World) : BK A [] (A.alloc (.cells #[.pointer none, .slice none 0 0] 54)) :=
  ⟨Lib.IsBuilderF.of (Lib.fresh_isBuilder _ _ A), (Below.refl _ A).alloc (Nat.le_refl _) _, by simp⟩
theorem BK.write (h : BK A acc W) (t : ByteArray) (hl : acc.length + t.size ≤ 140737488355328) :
    Calls Tryz.prog 22 #[.pointer (some ⟨A.heap.size, 0, none⟩), .string t] W fun e' W' => e' = .returned (.tuple #[.int .i64 t.size, .nilIface]) ∧ BK A (acc ++ t.data.toList) W' := by
  refine (WriteString_k _ _ _ t W h.bd (by rw [Lib.byteCells, List.length_map]; exact hl) (Nat.le_of_lt h.lt)).mono ?_
  rintro e' W' ⟨rfl, hb, hbel, hok⟩
  refine ⟨rfl, ?_, h.bel.trans hbel, Nat.lt_of_lt_of_le h.lt hbel.size⟩
  rw [Lib.strCells_eq] at hb
  rw [Lib.byteCells, List.map_append]
  exact .inr hb
theorem BK.byte (h : BK A acc W) (c : UInt8) (v : Int) (hv : v = c.toNat) (hl : acc.length + 1 ≤ 140737488355328) :
    Calls Tryz.prog 23 #[.pointer (some ⟨A.heap.size, 0, none⟩), .int .u8 v] W fun e' W' => e' = .returned .nilIface ∧ BK A (acc ++ [c]) W' := by
  subst hv
  refine (WriteByte_k _ _ _ _ W h.bd (by rw [Lib.byteCells, List.length_map]; exact hl) (Nat.le_of_lt h.lt)).mono ?_
  rintro e' W' ⟨rfl, hb, hbel, hok⟩
  refine ⟨rfl, ?_, h.bel.trans hbel, Nat.lt_of_lt_of_le h.lt hbel.size⟩
  rw [Lib.byteCells, List.map_append]
  exact .inr hb
theorem BK.str (h : BK A acc W) :
    Calls Tryz.prog 24 #[.pointer (some ⟨A.heap.size, 0, none⟩)] W fun e' W' => e' = .returned (.string ⟨acc.toArray⟩) ∧ BK A acc W' := by
  refine (Tryz.Builder_String_any_k _ _ acc W h.bd (Nat.le_of_lt h.lt)).mono ?_
  rintro e' W' ⟨rfl, hb, hbel, hok⟩
  exact ⟨rfl, hb, h.bel.trans hbel, Nat.lt_of_lt_of_le h.lt hbel.size⟩
theorem BK.later (h : BK A acc W) {W' : World} (hb : Below W.heap.size W W') : BK A acc W' :=
  ⟨isB_same h.bd fun k c T fz hk _ _ => (hb.block k (Array.getElem?_eq_some_iff.1 hk).1).trans hk, h.bel.trans (hb.mono (Nat.le_of_lt h.lt)), Nat.lt_of_lt_of_le h.lt hb.size⟩
end
def valN : Value → Nat
  | .int _ n => n.toNat
  | _ => 0
end Go.Proofs.YtcnhklcbibpjpaaGreatDoor
namespace Go.Proofs.YtcnhklcbibpjpaaGreatDoor
open Go.RowKit P Ext
abbrev awkS : ByteArray := ⟨#[97, 123, 110, 125]⟩
theorem awk_t0 : textE awkS 1 0 true 0 = ([97], 1, []) := by
  rw [textE, dif_pos (by decide), if_neg (by decide), if_neg (by decide), textE, dif_pos (by decide), if_neg (by decide), if_pos (by decide)]
  rfl
theorem awk_t4 : textE awkS 1 0 true 4 = ([], 4, []) := by rw [textE, dif_neg (by decide)]
theorem awk_b2 : blanks awkS 2 = 2 := by rw [blanks, dif_pos (by decide), if_neg (by decide)]
theorem awk_b3 : blanks awkS 3 = 3 := by rw [blanks, dif_pos (by decide), if_neg (by decide)]
theorem awk_w3 : wordEnd awkS 3 = 3 := by rw [wordEnd, dif_pos (by decide), if_pos (by decide)]
theorem awk_w2 : wordEnd awkS 2 = 3 := by
  rw [wordEnd, dif_pos (by decide), if_neg (by decide)]
  exact awk_w3
theorem awk_at : wordAt awkS 2 = ⟨#[110]⟩ := by
  rw [wordAt, awk_w2]
  rfl
theorem awk_id : identP ⟨#[110]⟩ = 1 := by
  rw [identP, if_neg (by decide), if_neg (by decide), if_pos]
  rw [nameOk, dif_pos (by decide), if_neg (by decide)]
  show nameOk ⟨#[110]⟩ 1 = true
  rw [nameOk, dif_neg (by decide)]
theorem awk_must : mustR awkS 125 4 (1 : Int) 3 = .ok 4 [(4, ⟨#[]⟩, 3)] [] := by
  rw [mustR, awk_b3, if_pos (by decide)]
  rfl
theorem awk_arg (k : Nat) : argF awkS 1 (k + 1) 1 = some (.ok 4 [(3, ⟨#[]⟩, 1), (5, ⟨#[110]⟩, 2), (4, ⟨#[]⟩, 3)] []) := by
  rw [argF]
  have h2 : (1 : Nat) + 1 = 2 := rfl
  rw [h2, awk_b2, awk_at, awk_id, awk_w2, awk_b3, if_neg (by decide), if_pos (by decide)]
  show (some (mustR awkS 125 4 (1 : Int) 3)).map _ = _
  rw [awk_must]
  rfl
theorem awk_m4 (k : Nat) : msgF awkS 1 (k + 1) 0 (-1) 4 = some (.ok 4 [] []) := by
  rw [msgF, show decide ((-1 : Int) < 0) = true from rfl, awk_t4]
  rfl
theorem awk_m0 (k : Nat) : msgF awkS 1 (k + 2) 0 (-1) 0 = some (.ok 4 [(1, ⟨#[97]⟩, 0), (3, ⟨#[]⟩, 1), (5, ⟨#[110]⟩, 2), (4, ⟨#[]⟩, 3)] []) := by
  rw [msgF, show decide ((-1 : Int) < 0) = true from rfl, awk_t0]
  rw [if_neg (by decide), if_pos (by decide), awk_arg, Option.bind_some, R.next, awk_m4]
  rfl
theorem awk_lex : lexR awkS 1 = .ok 4 [(1, ⟨#[97]⟩, 0), (3, ⟨#[]⟩, 1), (5, ⟨#[110]⟩, 2), (4, ⟨#[]⟩, 3)] [] := by
  have h := lexR_some awkS 1
  rw [show 2 * awkS.size + 2 = 8 + 2 from rfl, awk_m0] at h
  exact (Option.some.inj h).symm
theorem awk_lexO : lexO awkS 1 = .ok 4 [(1, ⟨#[97]⟩, 0), (3, ⟨#[]⟩, 1), (5, ⟨#[110]⟩, 2), (4, ⟨#[]⟩, 3)] [] := by
  rw [lexO, if_neg (by decide), if_pos (by decide), awk_lex]
set_option maxRecDepth 100000 in
set_option maxHeartbeats 4000000 in
theorem awake_any (w : World) (hG : GlH w) : Calls Tryz.prog 13 #[] w fun e w' => e = .returned (.bool true) ∧ Below w.heap.size w w' := by
  have HL := Lib.hid (Lex_any awkS 1 w hG)
  go_enter Tryz.func13, Tryz.ntmps13
  go_wp2_with fail
  refine HL.out.mono ?_
  rw [awk_lexO]
  rintro e w' ⟨⟨v, rfl, ho⟩, hb⟩
  have hn0 : 8 ≤ w.heap.size := hG.sz
  obtain ⟨g, cap, rfl⟩ := ownsRow_succ ho
  obtain ⟨hxs, h0 | ⟨g', cap', cur, hv, hg, hh, h1, h2, h3, h4⟩⟩ := ho
  · exact absurd h0.2 (by decide)
  · cases hv
    have hc : ∀ (j : Nat) (v : Value), cur[j]? = some v → w'.cell? ⟨g, j, none⟩ = some v := fun j v hj => by rw [Lib.cell_of_heap hh]; exact hj
    have hj : ∀ (j : Nat), j < 12 → cur[j]? = (tkCells [(1, ⟨#[97]⟩, 0), (3, ⟨#[]⟩, 1), (5, ⟨#[110]⟩, 2), (4, ⟨#[]⟩, 3)])[j]? := fun j hj => by
      rw [← h4, List.getElem?_take_of_lt (by simpa using hj), Array.getElem?_toList]
    have q1 := hc 1 (.string ⟨#[97]⟩) (by rw [hj 1 (by decide)]; rfl)
    have q7 := hc 7 (.string ⟨#[110]⟩) (by rw [hj 7 (by decide)]; rfl)
    clear hc hj h4 hxs
    go_wp2_with fail
    go_ret
    exact ⟨rfl, hb⟩
end Go.Proofs.YtcnhklcbibpjpaaGreatDoor
namespace Go.Proofs.YtcnhklcbibpjpaaGreatDoor
open Go.RowKit P Ext Go.Proofs.YtcnhklcbibpjpaaGreatDoorW.PrintWords
theorem special_f (c : Nat) (sort : Int) : PRqu.idiomref19_Special.f (c : Int) sort = some (synB c sort) := by
  unfold PRqu.idiomref19_Special.f synB
  repeat' split
  all_goals (congr 1; first | (simp_all; done) | (rw [Bool.eq_iff_iff]; simp; omega))
end Go.Proofs.YtcnhklcbibpjpaaGreatDoor
namespace Go.Proofs.YtcnhklcbibpjpaaGreatDoor
open Go.RowKit P Ext
end Go.Proofs.YtcnhklcbibpjpaaGreatDoor
