/-
  Words: the reference's Split. Printed by wdL.py.
-/
import Derived.Test.YtpeepbgpcmodcaaDoorTxJ
set_option maxRecDepth 100000
namespace Go.Tx
open Go Go.RowKit Go.Sx Go.Proofs
theorem rpBg_run (s : ByteArray) (hs : s.size ≤ 1048576) (n : Nat) (hn : n < cn s) (hg : ∀ j, j < n → (kd (rn s j) == 2) = false) (hb : (kd (rn s n) == 2) = true) : runF P (⟨⟨[], [], []⟩, [rpBe s hs n hn hg hb], 10, []⟩ : Env P) 3 10 [.string s] (.n 0 :: []) = some (.tuple #[.slice none 0 0, .int .i64 ((n : Nat) : Int), .int .i64 10], [Code.loop rp_b = innerOf P 10 0, (.string s : Value) = .string (tl s 0), (.int .i64 0 : Value) = .int .i64 ((0 : Nat) : Int), (.bool false : Value) = .bool false, (.slice none 0 0 : Value) = .slice none 0 0, (.slice none 0 0 : Value) = .slice none 0 0, (.int .i64 0 : Value) = .int .i64 0, (.int .i64 0 : Value) = .int .i64 0]) := by kernel_rfl
theorem rpB_gives (s : ByteArray) (hs : s.size ≤ 1048576) (n : Nat) (hn : n < cn s) (hg : ∀ j, j < n → (kd (rn s j) == 2) = false) (hb : (kd (rn s n) == 2) = true) : Gives P 10 #[.string s] (.tuple #[.slice none 0 0, .int .i64 ((n : Nat) : Int), .int .i64 10]) :=
  gives_of_run mo (rpBg_run s hs n hn hg hb) (ps_cons (by kernel_rfl) (ps_cons (by rw [tl_zero]) (ps_cons rfl (ps_cons rfl (ps_cons rfl (ps_cons rfl (ps_cons rfl (ps_cons rfl ps_nil)))))))) rfl
theorem rpNg_run (s : ByteArray) (hs : s.size ≤ 1048576) (hg : ∀ j, j < cn s → (kd (rn s j) == 2) = false) (h : rW s (cn s) = none) : runF P (⟨⟨[], [], []⟩, [rpNe s hs hg h], 10, []⟩ : Env P) 3 10 [.string s] (.n 0 :: []) = some (.tuple #[.slice none 0 0, .int .i64 ((cn s : Nat) : Int), .int .i64 0], [Code.loop rp_b = innerOf P 10 0, (.string s : Value) = .string (tl s 0), (.int .i64 0 : Value) = .int .i64 ((0 : Nat) : Int), (.bool false : Value) = .bool false, (.slice none 0 0 : Value) = .slice none 0 0, (.slice none 0 0 : Value) = .slice none 0 0, (.int .i64 0 : Value) = .int .i64 0, (.int .i64 0 : Value) = .int .i64 0]) := by kernel_rfl
theorem rpN_gives (s : ByteArray) (hs : s.size ≤ 1048576) (hg : ∀ j, j < cn s → (kd (rn s j) == 2) = false) (h : rW s (cn s) = none) : Gives P 10 #[.string s] (.tuple #[.slice none 0 0, .int .i64 ((cn s : Nat) : Int), .int .i64 0]) :=
  gives_of_run mo (rpNg_run s hs hg h) (ps_cons (by kernel_rfl) (ps_cons (by rw [tl_zero]) (ps_cons rfl (ps_cons rfl (ps_cons rfl (ps_cons rfl (ps_cons rfl (ps_cons rfl ps_nil)))))))) rfl
theorem rpRg_run (s : ByteArray) (hs : s.size ≤ 1048576) (hg : ∀ j, j < cn s → (kd (rn s j) == 2) = false) (M : List (Int × ByteArray)) (w : Int × ByteArray) (i : Bool) (h : rW s (cn s) = some (M, w, i)) (hn : M.length + 1 < 1000000) : runR P (⟨⟨[], [], []⟩, [rpRe s hs hg M w i h hn], 10, []⟩ : Env P) 3 10 [.v (.string s)] (.n 0 :: []) = some (⟨38, 2, M.length + 1, we (M ++ [w]), true⟩, [.int .i64 ((cn s : Nat) : Int), .int .i64 0], [Code.loop rp_b = innerOf P 10 0, (.string s : Value) = .string (tl s 0), (.int .i64 0 : Value) = .int .i64 ((0 : Nat) : Int), (.bool false : Value) = .bool false, (.slice none 0 0 : Value) = .slice none 0 0, (.slice none 0 0 : Value) = .slice none 0 0, (.int .i64 0 : Value) = .int .i64 0, (.int .i64 0 : Value) = .int .i64 0]) := by kernel_rfl
theorem rpR_gives (s : ByteArray) (hs : s.size ≤ 1048576) (hg : ∀ j, j < cn s → (kd (rn s j) == 2) = false) (M : List (Int × ByteArray)) (w : Int × ByteArray) (i : Bool) (h : rW s (cn s) = some (M, w, i)) (hn : M.length + 1 < 1000000) : GivesR P 10 [.v (.string s)] ⟨38, 2, (M ++ [w]).length, we (M ++ [w]), true⟩ [.int .i64 ((cn s : Nat) : Int), .int .i64 0] :=
  givesR_of_run mo (rpRg_run s hs hg M w i h hn) (ps_cons (by kernel_rfl) (ps_cons (by rw [tl_zero]) (ps_cons rfl (ps_cons rfl (ps_cons rfl (ps_cons rfl (ps_cons rfl (ps_cons rfl ps_nil)))))))) ⟨rfl, rfl, (by simp), fun _ => rfl, fun _ _ => rfl⟩ rfl
theorem rW_sw {s : ByteArray} : match rW s (cn s) with
    | none => sw s = []
    | some (M, w, _) => sw s = M ++ [w] := by
  unfold sw swK
  have hp := ps_end s
  rcases e : sst s (cn s) with ⟨b, f, L⟩
  dsimp only
  cases hb : decide (b ≥ 0) with
  | true =>
    rw [rW_in e hb, hp]
    rfl
  | false =>
    rcases List.eq_nil_or_concat L with rfl | ⟨M, w, rfl⟩
    · rw [rW_no e hb]
      rfl
    · rw [List.concat_eq_append] at e ⊢
      rw [rW_out e hb]
      rfl
theorem rq_plain (s : ByteArray) (hs : s.size ≤ 1048576) (h : sB s = true ∨ sw s = []) : Gives P 10 #[.string s] (spV s) := by
  unfold spV
  cases hb : sB s with
  | true =>
    obtain ⟨h1, h2, h3⟩ := bad_at hb
    exact rpB_gives s hs (bp s) h1 h2 h3
  | false =>
    have hn : sw s = [] := by
      rcases h with h | h
      · rw [hb] at h; cases h
      · exact h
    rw [bp_good hb]
    have hW := rW_sw (s := s)
    rcases e : rW s (cn s) with _ | ⟨M, w, i⟩
    · exact rpN_gives s hs (good_all hb) e
    · rw [e, hn] at hW
      simp at hW
theorem rq_row (s : ByteArray) (hs : s.size ≤ 1048576) (hb : sB s = false) (h : sw s ≠ []) : GivesR P 10 [.v (.string s)] (swR s) [.int .i64 ((cn s : Nat) : Int), .int .i64 0] := by
  have hW := rW_sw (s := s)
  have hl := sw_len s
  unfold swR
  rcases e : rW s (cn s) with _ | ⟨M, w, i⟩
  · rw [e] at hW
    exact absurd hW h
  · rw [e] at hW
    dsimp only at hW
    have := rW_len e
    have hc := cn_le s
    rw [hW] at hl ⊢
    simp at hl
    by_cases hx : M.length + 1 < 1000000
    · exact rpR_gives s (by omega) (good_all hb) M w i e hx
    · exact absurd hx (by omega)
noncomputable def rq_c : Ctr P := ⟨10, sP spP, sV spV, s_gives fun s h => rq_plain s h.1 h.2⟩
noncomputable def rr_c : CtrR P := ⟨10, srP, srR, srV, sr_gives rq_row⟩
end Go.Tx
