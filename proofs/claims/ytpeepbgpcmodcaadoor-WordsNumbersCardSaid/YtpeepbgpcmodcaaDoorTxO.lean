/-
  Words: what the document says of a text. Printed by wdO.py.
-/
import Derived.Test.YtpeepbgpcmodcaaDoorTxN
set_option maxRecDepth 100000
namespace Go.Tx
open Go Go.RowKit Go.Sx Go.Proofs
theorem wput_gives (args : List Value) (hp : iP args) : Gives P 18 args.toArray (iV args) := by
  unfold iP at hp
  split at hp
  · exact wp_ok _ hp
  · exact hp.elim
noncomputable def wp_c : Ctr P := ⟨18, iP, iV, wput_gives⟩
def wkE (j : Nat) : Value := ([.string ⟨#[97]⟩, .string ⟨#[98]⟩] : List Value).getD (0 + j) undef
noncomputable def ZW : Env P := ⟨⟨[sp_c, ct_c, wn_c, wb_c, wp_c], [wj_c], [sr_c]⟩, [], 10, []⟩
theorem wk_ok_run  : runF P ZW 2 8 [] (.b true :: (.b false :: (.lit :: (.b true :: (.b true :: (.b true :: (.lit :: (.b true :: (.b true :: (.b true :: (.b true :: (.b true :: (.b true :: (.b true :: (.b true :: (.b true :: (.b true :: (.b true :: (.b true :: []))))))))))))))))))) = some (.bool (!(bl 120)), [srP [.v (.string (⟨#[32, 103, 111, 227, 128, 128, 226, 136, 146, 49, 50]⟩))], ((((sw (⟨#[32, 103, 111, 227, 128, 128, 226, 136, 146, 49, 50]⟩)).length : Nat) : Int) != 2) = false, 1 < (sw (⟨#[32, 103, 111, 227, 128, 128, 226, 136, 146, 49, 50]⟩)).length, 1 < (sw (⟨#[32, 103, 111, 227, 128, 128, 226, 136, 146, 49, 50]⟩)).length, sP szP [.string ((wAt (sw (⟨#[32, 103, 111, 227, 128, 128, 226, 136, 146, 49, 50]⟩)) 1).2)], sP spP [.string (⟨#[97, 195, 169, 32, 255]⟩)], sP szP [.string (⟨#[49, 49, 53, 50, 57, 50, 49, 53, 48, 52, 54, 48, 54, 56, 52, 54, 57, 55, 55]⟩)], sP szP [.string (⟨#[239, 188, 145, 239, 188, 146]⟩)], 0 < (sw (⟨#[32, 103, 111, 227, 128, 128, 226, 136, 146, 49, 50]⟩)).length, 0 < (sw (⟨#[32, 103, 111, 227, 128, 128, 226, 136, 146, 49, 50]⟩)).length, (((wAt (sw (⟨#[32, 103, 111, 227, 128, 128, 226, 136, 146, 49, 50]⟩)) 0).1 == 1) && (((wAt (sw (⟨#[32, 103, 111, 227, 128, 128, 226, 136, 146, 49, 50]⟩)) 0).2) == (⟨#[103, 111]⟩ : ByteArray))) = true, 1 < (sw (⟨#[32, 103, 111, 227, 128, 128, 226, 136, 146, 49, 50]⟩)).length, 1 < (sw (⟨#[32, 103, 111, 227, 128, 128, 226, 136, 146, 49, 50]⟩)).length, ((wAt (sw (⟨#[32, 103, 111, 227, 128, 128, 226, 136, 146, 49, 50]⟩)) 1).1 == 4) = true, (((cn (⟨#[32, 103, 111, 227, 128, 128, 226, 136, 146, 49, 50]⟩) : Nat) : Int) == 7) = true, ((nv ((wAt (sw (⟨#[32, 103, 111, 227, 128, 128, 226, 136, 146, 49, 50]⟩)) 1).2)).1 == -12) = true, ((nv ((wAt (sw (⟨#[32, 103, 111, 227, 128, 128, 226, 136, 146, 49, 50]⟩)) 1).2)).2 == 0) = true, (((bp (⟨#[97, 195, 169, 32, 255]⟩) : Nat) : Int) == 3) = true, ((bif sB (⟨#[97, 195, 169, 32, 255]⟩) then (10 : Int) else 0) == 10) = true, ((nv (⟨#[49, 49, 53, 50, 57, 50, 49, 53, 48, 52, 54, 48, 54, 56, 52, 54, 57, 55, 55]⟩)).2 == 20) = true, ((nv (⟨#[239, 188, 145, 239, 188, 146]⟩)).1 == 12) = true, ((nv (⟨#[239, 188, 145, 239, 188, 146]⟩)).2 == 0) = true, iP [.int .i64 (-7)], ((ito (-7)).toList == (⟨#[45, 55]⟩ : ByteArray).toList) = true, wjP [.row ⟨9, 1, 2, wkE, false⟩], ((jF (fun j => tx (wkE j)) 2).toList == (⟨#[97, 32, 98]⟩ : ByteArray).toList) = true, sP szP [.string (⟨#[255, 195, 169]⟩)], (((cn (⟨#[255, 195, 169]⟩) : Nat) : Int) == 2) = true, rP [.int .i32 12288], (bl 12288) = true, rP [.int .i32 120]]) := by kernel_rfl
theorem wk_ok   : Gives P 8 #[] (.bool true) :=
  gives_of_run mo (wk_ok_run ) (ps_cons ⟨by decide, by kernel_rfl, fun e => absurd (congrArg List.length e) (by decide +kernel)⟩ (ps_cons (by kernel_rfl) (ps_cons (by decide +kernel) (ps_cons (by decide +kernel) (ps_cons (show _ ≤ 1000000 by decide +kernel) (ps_cons ⟨by decide, .inl (by kernel_rfl)⟩ (ps_cons (show _ ≤ 1000000 by decide +kernel) (ps_cons (show _ ≤ 1000000 by decide +kernel) (ps_cons (by decide +kernel) (ps_cons (by decide +kernel) (ps_cons (by kernel_rfl) (ps_cons (by decide +kernel) (ps_cons (by decide +kernel) (ps_cons (by kernel_rfl) (ps_cons (by kernel_rfl) (ps_cons (by kernel_rfl) (ps_cons (by kernel_rfl) (ps_cons (by kernel_rfl) (ps_cons (by kernel_rfl) (ps_cons (by kernel_rfl) (ps_cons (by kernel_rfl) (ps_cons (by kernel_rfl) (ps_cons ⟨by decide, by decide⟩ (ps_cons (by rw [tl_beq]; kernel_rfl) (ps_cons ⟨rfl, rfl, by decide, fun j hj => by match j, hj with | 0, _ => exact ⟨rfl, by decide⟩ | 1, _ => exact ⟨rfl, by decide⟩⟩ (ps_cons (by rw [tl_beq]; kernel_rfl) (ps_cons (show _ ≤ 1000000 by decide +kernel) (ps_cons (by kernel_rfl) (ps_cons trivial (ps_cons (by kernel_rfl) (ps_cons trivial ps_nil))))))))))))))))))))))))))))))) (by kernel_rfl)
def kP : List Value → Prop
  | [] => True
  | _ => False
theorem wk_gives (args : List Value) (hp : kP args) : Gives P 8 args.toArray (.bool true) := by
  unfold kP at hp
  split at hp
  · exact wk_ok
  · exact hp.elim
noncomputable def wk_c : Ctr P := ⟨8, kP, fun _ => .bool true, wk_gives⟩
end Go.Tx
