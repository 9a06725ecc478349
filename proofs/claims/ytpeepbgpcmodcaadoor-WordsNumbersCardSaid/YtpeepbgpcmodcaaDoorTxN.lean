/-
  Words: Stands. Printed by wdN.py.
-/
import Derived.Test.YtpeepbgpcmodcaaDoorTxM
set_option maxRecDepth 100000
namespace Go.Tx
open Go Go.RowKit Go.Sx Go.Proofs
theorem tl_beq (a b : ByteArray) : (a.toList == b.toList) = (a == b) := by
  rw [ByteArray.toList_eq, ByteArray.toList_eq]
  cases a with | mk a =>
  cases b with | mk b =>
  show (a.toList == b.toList) = (a == b)
  rw [Bool.eq_iff_iff, beq_iff_eq, beq_iff_eq, Array.toList_inj]
noncomputable def ZS : Env P := ⟨⟨[rq_c], [], [rr_c]⟩, [], 10, []⟩
def stB (s : ByteArray) : Bool := !sB s && (((sw s).length == 1) && ((wAt (sw s) 0).2 == s))
theorem st_b_run (s : ByteArray) : runF P ZS 2 22 [.string s] (.lit :: (.b false :: [])) = some (.bool false, [sP spP [.string s], ((bif sB s then (10 : Int) else 0) == 0) = false]) := by kernel_rfl
theorem st_b (s : ByteArray) (hs : s.size ≤ 500000) (h : sB s = true) : Gives P 22 #[.string s] (.bool (stB s)) :=
  gives_of_run mo (st_b_run s) (ps_cons ⟨by omega, .inl h⟩ (ps_cons (by rw [h]; rfl) ps_nil)) (by unfold stB; rw [h]; rfl)
theorem st_n_run (s : ByteArray) : runF P ZS 2 22 [.string s] (.lit :: (.b true :: [])) = some (.bool false, [sP spP [.string s], ((bif sB s then (10 : Int) else 0) == 0) = true]) := by kernel_rfl
theorem st_n (s : ByteArray) (hs : s.size ≤ 500000) (h : sB s = false) (hn : sw s = []) : Gives P 22 #[.string s] (.bool (stB s)) :=
  gives_of_run mo (st_n_run s) (ps_cons ⟨by omega, .inr hn⟩ (ps_cons (by rw [h]; rfl) ps_nil)) (by unfold stB; rw [h, hn]; rfl)
theorem st_1_run (s : ByteArray) : runF P ZS 2 22 [.string s] (.b true :: (.lit :: (.b true :: []))) = some (.bool (((wAt (sw s) 0).2).toList == s.toList), [srP [.v (.string s)], ((((sw s).length : Nat) : Int) == 1) = true, 0 < (sw s).length, 0 < (sw s).length]) := by kernel_rfl
theorem st_1 (s : ByteArray) (hs : s.size ≤ 500000) (h : sB s = false) (hl : (sw s).length = 1) : Gives P 22 #[.string s] (.bool (stB s)) :=
  gives_of_run mo (st_1_run s) (ps_cons ⟨by omega, h, fun e => by rw [e] at hl; cases hl⟩ (ps_cons (by rw [hl]; rfl) (ps_cons (by omega) (ps_cons (by omega) ps_nil)))) (by unfold stB; rw [h, hl, tl_beq]; rfl)
theorem st_2_run (s : ByteArray) : runF P ZS 2 22 [.string s] (.b true :: (.lit :: (.b false :: []))) = some (.bool false, [srP [.v (.string s)], ((((sw s).length : Nat) : Int) == 1) = false]) := by kernel_rfl
theorem st_2 (s : ByteArray) (hs : s.size ≤ 500000) (h : sB s = false) (hn : sw s ≠ []) (hl : (sw s).length ≠ 1) : Gives P 22 #[.string s] (.bool (stB s)) :=
  gives_of_run mo (st_2_run s) (ps_cons ⟨by omega, h, hn⟩ (ps_cons (by rw [beq_eq_false_iff_ne]; omega) ps_nil)) (by unfold stB; rw [h, beq_eq_false_iff_ne.2 hl]; rfl)
theorem st_ok (s : ByteArray) (hs : s.size ≤ 500000) : Gives P 22 #[.string s] (.bool (stB s)) := by
  cases h : sB s with
  | true => exact st_b s hs h
  | false =>
    by_cases hn : sw s = []
    · exact st_n s hs h hn
    · by_cases hl : (sw s).length = 1
      · exact st_1 s hs h hl
      · exact st_2 s hs h hn hl
def shP (s : ByteArray) : Prop := s.size ≤ 500000
noncomputable def st_c : Ctr P := ⟨22, sP shP, sV fun s => .bool (stB s), s_gives st_ok⟩
end Go.Tx
