/-
  Words: words.Split. Printed by wdI.py.
-/
import Derived.Test.YtpeepbgpcmodcaaDoorTxH
set_option maxRecDepth 100000
namespace Go.Tx
open Go Go.RowKit Go.Sx Go.Proofs
theorem spNb_run (s : ByteArray) (hs : s.size ≤ 1048576) (n : Nat) (hn : n < cn s) (hg : ∀ j, j < n → (kd (rn s j) == 2) = false) (hd : (kd (rn s n) == 2) = true) (b : Int) (f : Nat) (h : sst s n = (b, f, [])) : runF P (⟨⟨[kd_c], [], []⟩, [spNb s hs n hn hg hd b f h], 10, []⟩ : Env P) 4 9 [.string s] (.lit :: (.n 0 :: [])) = some (.tuple #[.slice none 0 0, .int .i64 ((n : Nat) : Int), .int .i64 10], [Code.loop sp_b = innerOf P 31 0, (.int .i64 (-1) : Value) = .int .i64 (-1), (.int .i64 0 : Value) = .int .i64 0, (.ptr 17 0 : SV) = .ptr 17 0, (.yld 13 : SV) = .yld 13, (.ptr 7 0 : SV) = .ptr 7 0, (.ptr 9 0 : SV) = .ptr 9 0, (.ptr 8 0 : SV) = .ptr 8 0, (.slice none 0 0 : Value) = .slice none 0 0, (.int .i64 0 : Value) = .int .i64 0, (.bool false : Value) = .bool false, (.string s : Value) = .string s, (.ptr 1 0 : SV) = .ptr 1 0, (.ptr 3 0 : SV) = .ptr 3 0, s = s, 0 = 0, lsub sp_rec (⟨.ready, none, [(8, .fn 31 [(7, 0), (9, 0), (8, 0)]), (7, .v (.string s)), (5, .ptr 3 0), (4, .v (.int .i64 0)), (3, .ptr 1 0), (2, .ptr 0 0), (0, .v (.string s))], 18, [9], sp_asg, sp_body⟩ : LoopS)]) := by kernel_rfl
theorem spNb_gives (s : ByteArray) (hs : s.size ≤ 1048576) (n : Nat) (hn : n < cn s) (hg : ∀ j, j < n → (kd (rn s j) == 2) = false) (hd : (kd (rn s n) == 2) = true) (b : Int) (f : Nat) (h : sst s n = (b, f, [])) : Gives P 9 #[.string s] (.tuple #[.slice none 0 0, .int .i64 ((n : Nat) : Int), .int .i64 10]) :=
  gives_of_run mo (spNb_run s hs n hn hg hd b f h) (ps_cons (by kernel_rfl) (ps_cons rfl (ps_cons rfl (ps_cons rfl (ps_cons rfl (ps_cons rfl (ps_cons rfl (ps_cons rfl (ps_cons rfl (ps_cons rfl (ps_cons rfl (ps_cons rfl (ps_cons rfl (ps_cons rfl (ps_cons rfl (ps_cons rfl (ps_cons (lsub_of ⟨⟨rfl, rfl, rfl⟩, ⟨rfl, rfl, rfl⟩, ⟨rfl, rfl, rfl, rfl, trivial⟩⟩) ps_nil))))))))))))))))) rfl
theorem spRb_run (s : ByteArray) (hs : s.size ≤ 1048576) (n : Nat) (hn : n < cn s) (hg : ∀ j, j < n → (kd (rn s j) == 2) = false) (hd : (kd (rn s n) == 2) = true) (b : Int) (f : Nat) (L : List (Int × ByteArray)) (h : sst s n = (b, f, L)) (hL : L ≠ []) : runF P (⟨⟨[kd_c], [], []⟩, [spRb s hs n hn hg hd b f L h hL], 10, []⟩ : Env P) 4 9 [.string s] (.lit :: (.n 0 :: [])) = some (.tuple #[.slice none 0 0, .int .i64 ((n : Nat) : Int), .int .i64 10], [Code.loop sp_b = innerOf P 31 0, (.int .i64 (-1) : Value) = .int .i64 (-1), (.int .i64 0 : Value) = .int .i64 0, (.ptr 17 0 : SV) = .ptr 17 0, (.yld 13 : SV) = .yld 13, (.ptr 7 0 : SV) = .ptr 7 0, (.ptr 9 0 : SV) = .ptr 9 0, (.ptr 8 0 : SV) = .ptr 8 0, (.slice none 0 0 : Value) = .slice none 0 0, (.int .i64 0 : Value) = .int .i64 0, (.bool false : Value) = .bool false, (.string s : Value) = .string s, (.ptr 1 0 : SV) = .ptr 1 0, (.ptr 3 0 : SV) = .ptr 3 0, s = s, 0 = 0, lsub sp_rec (⟨.ready, none, [(8, .fn 31 [(7, 0), (9, 0), (8, 0)]), (7, .v (.string s)), (5, .ptr 3 0), (4, .v (.int .i64 0)), (3, .ptr 1 0), (2, .ptr 0 0), (0, .v (.string s))], 18, [9], sp_asg, sp_body⟩ : LoopS)]) := by kernel_rfl
theorem spRb_gives (s : ByteArray) (hs : s.size ≤ 1048576) (n : Nat) (hn : n < cn s) (hg : ∀ j, j < n → (kd (rn s j) == 2) = false) (hd : (kd (rn s n) == 2) = true) (b : Int) (f : Nat) (L : List (Int × ByteArray)) (h : sst s n = (b, f, L)) (hL : L ≠ []) : Gives P 9 #[.string s] (.tuple #[.slice none 0 0, .int .i64 ((n : Nat) : Int), .int .i64 10]) :=
  gives_of_run mo (spRb_run s hs n hn hg hd b f L h hL) (ps_cons (by kernel_rfl) (ps_cons rfl (ps_cons rfl (ps_cons rfl (ps_cons rfl (ps_cons rfl (ps_cons rfl (ps_cons rfl (ps_cons rfl (ps_cons rfl (ps_cons rfl (ps_cons rfl (ps_cons rfl (ps_cons rfl (ps_cons rfl (ps_cons rfl (ps_cons (lsub_of ⟨⟨rfl, rfl, rfl⟩, ⟨rfl, rfl, rfl⟩, ⟨rfl, rfl, rfl, rfl, trivial⟩⟩) ps_nil))))))))))))))))) rfl
theorem spN0_run (s : ByteArray) (hs : s.size ≤ 1048576) (hg : ∀ j, j < cn s → (kd (rn s j) == 2) = false) (b : Int) (f : Nat) (h : sst s (cn s) = (b, f, [])) : runF P (⟨⟨[kd_c], [], []⟩, [spNe s hs hg b f h], 10, []⟩ : Env P) 4 9 [.string s] (.lit :: (.n 0 :: (.b false :: []))) = some (.tuple #[.slice none 0 0, .int .i64 ((cn s : Nat) : Int), .int .i64 0], [Code.loop sp_b = innerOf P 31 0, (.int .i64 (-1) : Value) = .int .i64 (-1), (.int .i64 0 : Value) = .int .i64 0, (.ptr 17 0 : SV) = .ptr 17 0, (.yld 13 : SV) = .yld 13, (.ptr 7 0 : SV) = .ptr 7 0, (.ptr 9 0 : SV) = .ptr 9 0, (.ptr 8 0 : SV) = .ptr 8 0, (.slice none 0 0 : Value) = .slice none 0 0, (.int .i64 0 : Value) = .int .i64 0, (.bool false : Value) = .bool false, (.string s : Value) = .string s, (.ptr 1 0 : SV) = .ptr 1 0, (.ptr 3 0 : SV) = .ptr 3 0, s = s, 0 = 0, lsub sp_rec (⟨.ready, none, [(8, .fn 31 [(7, 0), (9, 0), (8, 0)]), (7, .v (.string s)), (5, .ptr 3 0), (4, .v (.int .i64 0)), (3, .ptr 1 0), (2, .ptr 0 0), (0, .v (.string s))], 18, [9], sp_asg, sp_body⟩ : LoopS), (decide (b ≥ 0)) = false]) := by kernel_rfl
theorem spN0_gives (s : ByteArray) (hs : s.size ≤ 1048576) (hg : ∀ j, j < cn s → (kd (rn s j) == 2) = false) (b : Int) (f : Nat) (h : sst s (cn s) = (b, f, [])) (hb : (decide (b ≥ 0)) = false) : Gives P 9 #[.string s] (.tuple #[.slice none 0 0, .int .i64 ((cn s : Nat) : Int), .int .i64 0]) :=
  gives_of_run mo (spN0_run s hs hg b f h) (ps_cons (by kernel_rfl) (ps_cons rfl (ps_cons rfl (ps_cons rfl (ps_cons rfl (ps_cons rfl (ps_cons rfl (ps_cons rfl (ps_cons rfl (ps_cons rfl (ps_cons rfl (ps_cons rfl (ps_cons rfl (ps_cons rfl (ps_cons rfl (ps_cons rfl (ps_cons (lsub_of ⟨⟨rfl, rfl, rfl⟩, ⟨rfl, rfl, rfl⟩, ⟨rfl, rfl, rfl, rfl, trivial⟩⟩) (ps_cons hb ps_nil)))))))))))))))))) rfl
theorem spN1_run (s : ByteArray) (hs : s.size ≤ 1048576) (hg : ∀ j, j < cn s → (kd (rn s j) == 2) = false) (b : Int) (f : Nat) (h : sst s (cn s) = (b, f, [])) : runR P (⟨⟨[kd_c], [], []⟩, [spNe s hs hg b f h], 10, []⟩ : Env P) 5 9 [.v (.string s)] (.lit :: (.n 0 :: (.b true :: []))) = some (appQ 38 2 ⟨38, 2, 0, fun _ => undef, true⟩ (.agg #[.int .i64 b, .string (s.extract (((f : Nat) : Int) : Int).toNat s.size)]), [.int .i64 ((cn s : Nat) : Int), .int .i64 0], [Code.loop sp_b = innerOf P 31 0, (.int .i64 (-1) : Value) = .int .i64 (-1), (.int .i64 0 : Value) = .int .i64 0, (.ptr 17 0 : SV) = .ptr 17 0, (.yld 13 : SV) = .yld 13, (.ptr 7 0 : SV) = .ptr 7 0, (.ptr 9 0 : SV) = .ptr 9 0, (.ptr 8 0 : SV) = .ptr 8 0, (.slice none 0 0 : Value) = .slice none 0 0, (.int .i64 0 : Value) = .int .i64 0, (.bool false : Value) = .bool false, (.string s : Value) = .string s, (.ptr 1 0 : SV) = .ptr 1 0, (.ptr 3 0 : SV) = .ptr 3 0, s = s, 0 = 0, lsub sp_rec (⟨.ready, none, [(8, .fn 31 [(7, 0), (9, 0), (8, 0)]), (7, .v (.string s)), (5, .ptr 3 0), (4, .v (.int .i64 0)), (3, .ptr 1 0), (2, .ptr 0 0), (0, .v (.string s))], 18, [9], sp_asg, sp_body⟩ : LoopS), (decide (b ≥ 0)) = true, 0 ≤ ((f : Nat) : Int) ∧ ((f : Nat) : Int) ≤ ((s.size : Nat) : Int), 0 < 1000000]) := by kernel_rfl
theorem spN1_gives (s : ByteArray) (hs : s.size ≤ 1048576) (hg : ∀ j, j < cn s → (kd (rn s j) == 2) = false) (b : Int) (f : Nat) (h : sst s (cn s) = (b, f, [])) (hb : (decide (b ≥ 0)) = true) (x0 : 0 ≤ ((f : Nat) : Int) ∧ ((f : Nat) : Int) ≤ ((s.size : Nat) : Int)) : GivesR P 9 [.v (.string s)] ⟨38, 2, ([(b, s.extract f s.size)] : List (Int × ByteArray)).length, we ([(b, s.extract f s.size)] : List (Int × ByteArray)), true⟩ [.int .i64 ((cn s : Nat) : Int), .int .i64 0] :=
  givesR_of_run mo (spN1_run s hs hg b f h) (ps_cons (by kernel_rfl) (ps_cons rfl (ps_cons rfl (ps_cons rfl (ps_cons rfl (ps_cons rfl (ps_cons rfl (ps_cons rfl (ps_cons rfl (ps_cons rfl (ps_cons rfl (ps_cons rfl (ps_cons rfl (ps_cons rfl (ps_cons rfl (ps_cons rfl (ps_cons (lsub_of ⟨⟨rfl, rfl, rfl⟩, ⟨rfl, rfl, rfl⟩, ⟨rfl, rfl, rfl, rfl, trivial⟩⟩) (ps_cons hb (ps_cons x0 (ps_cons (by decide) ps_nil)))))))))))))))))))) ⟨rfl, rfl, rfl, fun _ => rfl, fun j hj => we_one (b, s.extract f s.size) j hj⟩ rfl
theorem spR0_run (s : ByteArray) (hs : s.size ≤ 1048576) (hg : ∀ j, j < cn s → (kd (rn s j) == 2) = false) (b : Int) (f : Nat) (L : List (Int × ByteArray)) (h : sst s (cn s) = (b, f, L)) (hL : L ≠ []) : runR P (⟨⟨[kd_c], [], []⟩, [spRe s hs hg b f L h hL], 10, []⟩ : Env P) 4 9 [.v (.string s)] (.lit :: (.n 0 :: (.b false :: []))) = some (⟨38, 2, L.length, we L, true⟩, [.int .i64 ((cn s : Nat) : Int), .int .i64 0], [Code.loop sp_b = innerOf P 31 0, (.int .i64 (-1) : Value) = .int .i64 (-1), (.int .i64 0 : Value) = .int .i64 0, (.ptr 17 0 : SV) = .ptr 17 0, (.yld 13 : SV) = .yld 13, (.ptr 7 0 : SV) = .ptr 7 0, (.ptr 9 0 : SV) = .ptr 9 0, (.ptr 8 0 : SV) = .ptr 8 0, (.slice none 0 0 : Value) = .slice none 0 0, (.int .i64 0 : Value) = .int .i64 0, (.bool false : Value) = .bool false, (.string s : Value) = .string s, (.ptr 1 0 : SV) = .ptr 1 0, (.ptr 3 0 : SV) = .ptr 3 0, s = s, 0 = 0, lsub sp_rec (⟨.ready, none, [(8, .fn 31 [(7, 0), (9, 0), (8, 0)]), (7, .v (.string s)), (5, .ptr 3 0), (4, .v (.int .i64 0)), (3, .ptr 1 0), (2, .ptr 0 0), (0, .v (.string s))], 18, [9], sp_asg, sp_body⟩ : LoopS), (decide (b ≥ 0)) = false]) := by kernel_rfl
theorem spR0_gives (s : ByteArray) (hs : s.size ≤ 1048576) (hg : ∀ j, j < cn s → (kd (rn s j) == 2) = false) (b : Int) (f : Nat) (L : List (Int × ByteArray)) (h : sst s (cn s) = (b, f, L)) (hL : L ≠ []) (hb : (decide (b ≥ 0)) = false) : GivesR P 9 [.v (.string s)] ⟨38, 2, L.length, we L, true⟩ [.int .i64 ((cn s : Nat) : Int), .int .i64 0] :=
  givesR_of_run mo (spR0_run s hs hg b f L h hL) (ps_cons (by kernel_rfl) (ps_cons rfl (ps_cons rfl (ps_cons rfl (ps_cons rfl (ps_cons rfl (ps_cons rfl (ps_cons rfl (ps_cons rfl (ps_cons rfl (ps_cons rfl (ps_cons rfl (ps_cons rfl (ps_cons rfl (ps_cons rfl (ps_cons rfl (ps_cons (lsub_of ⟨⟨rfl, rfl, rfl⟩, ⟨rfl, rfl, rfl⟩, ⟨rfl, rfl, rfl, rfl, trivial⟩⟩) (ps_cons hb ps_nil)))))))))))))))))) ⟨rfl, rfl, rfl, fun _ => rfl, fun _ _ => rfl⟩ rfl
theorem spR1_run (s : ByteArray) (hs : s.size ≤ 1048576) (hg : ∀ j, j < cn s → (kd (rn s j) == 2) = false) (b : Int) (f : Nat) (L : List (Int × ByteArray)) (h : sst s (cn s) = (b, f, L)) (hL : L ≠ []) : runR P (⟨⟨[kd_c], [], []⟩, [spRe s hs hg b f L h hL], 10, []⟩ : Env P) 5 9 [.v (.string s)] (.lit :: (.n 0 :: (.b true :: []))) = some (appQ 38 2 ⟨38, 2, L.length, we L, true⟩ (.agg #[.int .i64 b, .string (s.extract (((f : Nat) : Int) : Int).toNat s.size)]), [.int .i64 ((cn s : Nat) : Int), .int .i64 0], [Code.loop sp_b = innerOf P 31 0, (.int .i64 (-1) : Value) = .int .i64 (-1), (.int .i64 0 : Value) = .int .i64 0, (.ptr 17 0 : SV) = .ptr 17 0, (.yld 13 : SV) = .yld 13, (.ptr 7 0 : SV) = .ptr 7 0, (.ptr 9 0 : SV) = .ptr 9 0, (.ptr 8 0 : SV) = .ptr 8 0, (.slice none 0 0 : Value) = .slice none 0 0, (.int .i64 0 : Value) = .int .i64 0, (.bool false : Value) = .bool false, (.string s : Value) = .string s, (.ptr 1 0 : SV) = .ptr 1 0, (.ptr 3 0 : SV) = .ptr 3 0, s = s, 0 = 0, lsub sp_rec (⟨.ready, none, [(8, .fn 31 [(7, 0), (9, 0), (8, 0)]), (7, .v (.string s)), (5, .ptr 3 0), (4, .v (.int .i64 0)), (3, .ptr 1 0), (2, .ptr 0 0), (0, .v (.string s))], 18, [9], sp_asg, sp_body⟩ : LoopS), (decide (b ≥ 0)) = true, 0 ≤ ((f : Nat) : Int) ∧ ((f : Nat) : Int) ≤ ((s.size : Nat) : Int), L.length < 1000000]) := by kernel_rfl
theorem spR1_gives (s : ByteArray) (hs : s.size ≤ 1048576) (hg : ∀ j, j < cn s → (kd (rn s j) == 2) = false) (b : Int) (f : Nat) (L : List (Int × ByteArray)) (h : sst s (cn s) = (b, f, L)) (hL : L ≠ []) (hb : (decide (b ≥ 0)) = true) (x0 : 0 ≤ ((f : Nat) : Int) ∧ ((f : Nat) : Int) ≤ ((s.size : Nat) : Int)) (x1 : L.length < 1000000) : GivesR P 9 [.v (.string s)] ⟨38, 2, (L ++ [(b, s.extract f s.size)]).length, we (L ++ [(b, s.extract f s.size)]), true⟩ [.int .i64 ((cn s : Nat) : Int), .int .i64 0] :=
  givesR_of_run mo (spR1_run s hs hg b f L h hL) (ps_cons (by kernel_rfl) (ps_cons rfl (ps_cons rfl (ps_cons rfl (ps_cons rfl (ps_cons rfl (ps_cons rfl (ps_cons rfl (ps_cons rfl (ps_cons rfl (ps_cons rfl (ps_cons rfl (ps_cons rfl (ps_cons rfl (ps_cons rfl (ps_cons rfl (ps_cons (lsub_of ⟨⟨rfl, rfl, rfl⟩, ⟨rfl, rfl, rfl⟩, ⟨rfl, rfl, rfl, rfl, trivial⟩⟩) (ps_cons hb (ps_cons x0 (ps_cons x1 ps_nil)))))))))))))))))))) ⟨rfl, rfl, (by simp [appQ]), fun _ => rfl, fun j hj => we_app L (b, s.extract f s.size) j hj⟩ rfl
def bpF (s : ByteArray) : Nat → Nat
  | 0 => 0
  | n + 1 => if bpF s n < n then bpF s n else if kd (rn s n) == 2 then n else n + 1
theorem bpF_spec (s : ByteArray) : ∀ n, bpF s n ≤ n ∧ (∀ j, j < bpF s n → (kd (rn s j) == 2) = false) ∧ (bpF s n < n → (kd (rn s (bpF s n)) == 2) = true)
  | 0 => ⟨Nat.le_refl _, fun j h => by simp [bpF] at h, fun h => by simp [bpF] at h⟩
  | n + 1 => by
    obtain ⟨h1, h2, h3⟩ := bpF_spec s n
    unfold bpF
    by_cases c : bpF s n < n
    · rw [if_pos c]
      exact ⟨by omega, h2, fun _ => h3 c⟩
    · rw [if_neg c]
      have e : bpF s n = n := by omega
      rw [e] at h2
      cases k : (kd (rn s n) == 2) with
      | true =>
        rw [if_pos rfl]
        exact ⟨by omega, h2, fun _ => k⟩
      | false =>
        rw [if_neg (by simp)]
        refine ⟨Nat.le_refl _, fun j hj => ?_, fun h => by omega⟩
        rcases Nat.lt_or_ge j n with hj' | hj'
        · exact h2 j hj'
        · have : j = n := by omega
          subst this
          exact k
def bp (s : ByteArray) : Nat := bpF s (cn s)
def sB (s : ByteArray) : Bool := decide (bp s < cn s)
def swK (s : ByteArray) (k e : Nat) : List (Int × ByteArray) := if decide ((sst s k).1 ≥ 0) then (sst s k).2.2 ++ [((sst s k).1, s.extract (sst s k).2.1 e)] else (sst s k).2.2
def sw (s : ByteArray) : List (Int × ByteArray) := swK s (cn s) s.size
theorem bp_good {s : ByteArray} (h : sB s = false) : bp s = cn s := by
  have := (bpF_spec s (cn s)).1
  have h := of_decide_eq_false h
  unfold bp at *
  omega
theorem good_all {s : ByteArray} (h : sB s = false) : ∀ j, j < cn s → (kd (rn s j) == 2) = false := fun j hj => (bpF_spec s (cn s)).2.1 j (by have := bp_good h; unfold bp at this; omega)
theorem bad_at {s : ByteArray} (h : sB s = true) : bp s < cn s ∧ (∀ j, j < bp s → (kd (rn s j) == 2) = false) ∧ (kd (rn s (bp s)) == 2) = true :=
  ⟨of_decide_eq_true h, (bpF_spec s (cn s)).2.1, (bpF_spec s (cn s)).2.2 (of_decide_eq_true h)⟩
theorem sw_half (s : ByteArray) : 2 * (sw s).length ≤ s.size + 1 := by
  have h := sst_cnt s (cn s)
  have hc := cn_le s
  unfold sw swK
  split
  · rename_i hd
    have hd := of_decide_eq_true hd
    rw [if_pos hd] at h
    simp
    omega
  · omega
theorem sw_len (s : ByteArray) : (sw s).length ≤ s.size := by
  have := sw_half s
  rcases Nat.eq_zero_or_pos s.size with h | h
  · have hc := cn_le s
    have h0 : cn s = 0 := by omega
    unfold sw swK
    rw [h0]
    exact Nat.zero_le _
  · omega
def spV (s : ByteArray) : Value := .tuple #[.slice none 0 0, .int .i64 ((bp s : Nat) : Int), .int .i64 (bif sB s then 10 else 0)]
def swR (s : ByteArray) : RowS := ⟨38, 2, (sw s).length, we (sw s), true⟩
theorem sw_nil {s : ByteArray} (h : sw s = []) : decide ((sst s (cn s)).1 ≥ 0) = false ∧ (sst s (cn s)).2.2 = [] := by
  unfold sw swK at h
  cases c : decide ((sst s (cn s)).1 ≥ 0) with
  | true => rw [c] at h; simp at h
  | false => rw [c] at h; exact ⟨rfl, by simpa using h⟩
theorem sp_plain (s : ByteArray) (hs : s.size ≤ 1048576) (h : sB s = true ∨ sw s = []) : Gives P 9 #[.string s] (spV s) := by
  unfold spV
  cases hb : sB s with
  | true =>
    obtain ⟨h1, h2, h3⟩ := bad_at hb
    rcases e : sst s (bp s) with ⟨b, f, L⟩
    by_cases hL : L = []
    · subst hL
      exact spNb_gives s hs (bp s) h1 h2 h3 b f e
    · exact spRb_gives s hs (bp s) h1 h2 h3 b f L e hL
  | false =>
    have hn : sw s = [] := by
      rcases h with h | h
      · rw [hb] at h; cases h
      · exact h
    obtain ⟨g1, g2⟩ := sw_nil hn
    rcases e : sst s (cn s) with ⟨b, f, L⟩
    rw [e] at g1 g2
    dsimp only at g1 g2
    subst g2
    rw [bp_good hb]
    exact spN0_gives s hs (good_all hb) b f e g1
theorem sp_row (s : ByteArray) (hs : s.size ≤ 1048576) (hb : sB s = false) (h : sw s ≠ []) : GivesR P 9 [.v (.string s)] (swR s) [.int .i64 ((cn s : Nat) : Int), .int .i64 0] := by
  have hr := sst_rng s (cn s)
  have hsz := sw_half s
  have hc := cn_le s
  have hp := ps_end s
  unfold swR
  unfold sw swK at h hsz ⊢
  rcases e : sst s (cn s) with ⟨b, f, L⟩
  rw [e] at h hr hsz
  dsimp only at h hr hsz
  have x0 : 0 ≤ ((f : Nat) : Int) ∧ ((f : Nat) : Int) ≤ ((s.size : Nat) : Int) := by omega
  cases hd : decide (b ≥ 0) with
  | true =>
    by_cases hL : L = []
    · subst hL
      exact spN1_gives s hs (good_all hb) b f e hd x0
    · rw [hd, if_pos rfl] at hsz
      simp at hsz
      exact spR1_gives s hs (good_all hb) b f L e hL hd x0 (by omega)
  | false =>
    rw [hd, if_neg (by simp)] at h
    exact spR0_gives s hs (good_all hb) b f L e h hd
def spP (s : ByteArray) : Prop := s.size ≤ 1048576 ∧ (sB s = true ∨ sw s = [])
def srP : List DV → Prop
  | [.v (.string s)] => s.size ≤ 1048576 ∧ sB s = false ∧ sw s ≠ []
  | _ => False
def srR : List DV → RowS
  | [.v (.string s)] => swR s
  | _ => ⟨0, 0, 0, fun _ => undef, true⟩
def srV : List DV → List Value
  | [.v (.string s)] => [.int .i64 ((cn s : Nat) : Int), .int .i64 0]
  | _ => []
theorem sr_gives {g : FuncId} (h : ∀ s : ByteArray, s.size ≤ 1048576 → sB s = false → sw s ≠ [] → GivesR P g [.v (.string s)] (swR s) [.int .i64 ((cn s : Nat) : Int), .int .i64 0]) (ds : List DV) (hp : srP ds) : GivesR P g ds (srR ds) (srV ds) := by
  unfold srP at hp
  split at hp
  · exact h _ hp.1 hp.2.1 hp.2.2
  · exact hp.elim
noncomputable def sp_c : Ctr P := ⟨9, sP spP, sV spV, s_gives fun s h => sp_plain s h.1 h.2⟩
noncomputable def sr_c : CtrR P := ⟨9, srP, srR, srV, sr_gives fun s hs => sp_row s (by omega)⟩
end Go.Tx
