/-
  Words: contracts of counts and numbers.
-/
import Derived.Test.YtpeepbgpcmodcaaDoorTxE
set_option maxRecDepth 100000
namespace Go.Tx
open Go Go.RowKit Go.Sx Go.Proofs
def ag (s : ByteArray) : Bool := (List.range (cn s)).all (good s)
theorem ag_true {s : ByteArray} (h : ag s = true) : ∀ j, j < cn s → good s j = true := fun j hj => List.all_eq_true.1 h j (List.mem_range.2 hj)
theorem first_bad {p : Nat → Bool} : ∀ {n : Nat}, (List.range n).all p = false → ∃ b, b < n ∧ (∀ j, j < b → p j = true) ∧ p b = false
  | 0, h => by cases h
  | n + 1, h => by
    cases hn : (List.range n).all p with
    | false => obtain ⟨b, h1, h2, h3⟩ := first_bad hn; exact ⟨b, by omega, h2, h3⟩
    | true =>
      refine ⟨n, by omega, fun j hj => List.all_eq_true.1 hn j (List.mem_range.2 hj), ?_⟩
      rw [List.range_succ, List.all_append, hn] at h
      simpa using h
def nv (s : ByteArray) : Int × Int := if ag s then nvG s else (0, 12)
theorem wn_str (s : ByteArray) (hs : s.size ≤ 1000000) : Gives P 11 #[.string s] (.tuple #[.int .i64 (nv s).1, .int .i64 (nv s).2]) := by
  unfold nv
  cases h : ag s with
  | true => exact wn_good s hs (ag_true h)
  | false => obtain ⟨b, h1, h2, h3⟩ := first_bad h; exact wn_bad s hs b h1 h2 h3
def szP (s : ByteArray) : Prop := s.size ≤ 1000000
noncomputable def ct_c : Ctr P := ⟨14, sP szP, sV fun s => .int .i64 ((cn s : Nat) : Int), s_gives ct_str⟩
noncomputable def wn_c : Ctr P := ⟨11, sP szP, sV fun s => .tuple #[.int .i64 (nv s).1, .int .i64 (nv s).2], s_gives wn_str⟩
end Go.Tx
