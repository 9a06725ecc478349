/-
  Words: Same, Join, Stands. Printed by wdM.py.
-/
import Derived.Test.YtpeepbgpcmodcaaDoorTxL
set_option maxRecDepth 100000
namespace Go.Tx
open Go Go.RowKit Go.Sx Go.Proofs
theorem ba_beq (s t : ByteArray) : (s == t) = true ↔ s = t := by
  cases s with | mk a =>
  cases t with | mk b =>
  show (a == b) = true ↔ _
  rw [beq_iff_eq, ByteArray.mk.injEq]
theorem ba_self (s : ByteArray) : (s == s) = true := (ba_beq s s).2 rfl
def jF (x : Nat → ByteArray) : Nat → ByteArray
  | 0 => ByteArray.empty
  | k + 1 => (bif Nat.blt 0 k then jF x k ++ ⟨#[32]⟩ else jF x k) ++ x k
theorem jF_size {x : Nat → ByteArray} {m : Nat} : ∀ {k : Nat}, (∀ j, j < k → (x j).size ≤ m) → (jF x k).size ≤ k * (m + 1)
  | 0, _ => Nat.zero_le _
  | k + 1, h => by
    have ih := jF_size (k := k) fun j hj => h j (by omega)
    have h1 := h k (by omega)
    have e : (k + 1) * (m + 1) = k * (m + 1) + (m + 1) := by rw [Nat.add_mul, Nat.one_mul]
    rw [e]
    unfold jF
    rw [ByteArray.size_append]
    cases Nat.blt 0 k with
    | true =>
      simp only [cond_true, ByteArray.size_append]
      have : (⟨#[32]⟩ : ByteArray).size = 1 := rfl
      omega
    | false =>
      simp only [cond_false]
      omega
def tx : Value → ByteArray
  | .string s => s
  | _ => ByteArray.empty
def joP : List DV → Prop
  | [.row q, .v y] => q.sz = 1 ∧ q.ty = 9 ∧ q.n ≤ 1000 ∧ (∀ j, j < q.n → q.el j = .string (tx (q.el j)) ∧ (tx (q.el j)).size ≤ 1000) ∧ y = .string ⟨#[32]⟩
  | [.v x, .v y] => x = .slice none 0 0 ∧ y = .string ⟨#[32]⟩
  | _ => False
def joV : List DV → Value
  | [.row q, _] => .string (jF (fun j => tx (q.el j)) q.n)
  | _ => .string ByteArray.empty
theorem join_snoc (sep y : List UInt8) : ∀ l : List (List UInt8), Lib.join (l ++ [y]) sep = if l = [] then y else Lib.join l sep ++ sep ++ y
  | [] => by rw [if_pos rfl]; exact Lib.join_one y sep
  | a :: l => by
    rw [if_neg (by simp), List.cons_append, Lib.join_cons, Lib.join_cons]
    simp [Lib.joinTail, List.append_assoc]
theorem join_jF (x : Nat → ByteArray) : ∀ n, Lib.join (((List.range n).map x).map (·.data.toList)) [32] = (jF x n).data.toList
  | 0 => rfl
  | n + 1 => by
    have ih := join_jF x n
    rw [List.range_succ, List.map_append, List.map_append]
    show Lib.join (_ ++ [(x n).data.toList]) _ = _
    rw [join_snoc, ih]
    show _ = ((bif Nat.blt 0 n then jF x n ++ ⟨#[32]⟩ else jF x n) ++ x n).data.toList
    cases n with
    | zero => simp [jF]; rfl
    | succ k =>
      rw [if_neg (by simp), show Nat.blt 0 (k + 1) = true by rw [Nat.blt_eq]; omega, cond_true]
      simp
theorem jo_gives (ds : List DV) (h : joP ds) : GivesD P 30 ds (joV ds) := by
  unfold joP at h
  split at h
  · rename_i q y
    obtain ⟨h1, _, h2, h3, rfl⟩ := h
    intro F n o a W K Q args g1 g2 g3 hz hs hK
    match args, hs with
    | [u, v], ⟨⟨p, hp, hw⟩, hv, _⟩ =>
      have hv : v = .string ⟨#[32]⟩ := hv
      subst hv hp
      obtain ⟨fn, hfn, hfb, hfname⟩ := funOk_spec (P := P) (g := 30) (by kernel_rfl)
      rw [run_callFunc_body hfn hfb hfname, Oper.uponIn_enter]
      refine ⟨fun hd => by rw [g2] at hd; exact absurd hd (by simp), callsIn_loose ⟨g1, g2, g3⟩ ?_⟩
      obtain ⟨cells, ty, fr, hc, _, hel⟩ := hw.mem
      have hpn : p.n = q.n := hw.n
      have hl : ((List.range q.n).map fun j => tx (q.el j)).length = p.n := by simp [hpn]
      have key := Tryd.strings_Join p.k p.off p.cap ((List.range q.n).map fun j => tx (q.el j)) ⟨#[32]⟩ W (fun j x hx => by
          rw [List.getElem?_map] at hx
          have hj : j < q.n := by
            rcases Nat.lt_or_ge j q.n with hj | hj
            · exact hj
            · rw [List.getElem?_eq_none (by simpa using hj)] at hx; cases hx
          rw [List.getElem?_range hj] at hx
          have hx : tx (q.el j) = x := by simpa using hx
          have h5 := (hel j hj).2 0 (by show 0 < q.sz; omega)
          rw [(h3 j hj).1, hx] at h5
          have e0 : j * q.sz + 0 = j := by rw [h1]; omega
          have h5 : cells[p.off + (j * q.sz + 0)]? = some (Value.string x) := h5
          rw [e0] at h5
          simp [World.cell?, hc, h5]) (Array.getElem?_eq_some_iff.1 hc).1 (by rw [hl, hpn]; omega) (by rw [hl, hpn]; exact hw.cap) (by
          rw [join_jF]
          have := jF_size (x := fun j => tx (q.el j)) (m := 1000) (k := q.n) fun j hj => (h3 j hj).2
          show (jF _ q.n).size ≤ _
          omega)
      rw [join_jF, hl] at key
      refine key.mono ?_
      rintro e w' ⟨rfl, hB⟩
      exact hK w' hB
  · obtain ⟨rfl, rfl⟩ := h
    intro F n o a W K Q args g1 g2 g3 hz hs hK
    match args, hs with
    | [u, v], ⟨hu, hv, _⟩ =>
      have hu : u = .slice none 0 0 := hu
      have hv : v = .string ⟨#[32]⟩ := hv
      subst hu hv
      obtain ⟨fn, hfn, hfb, hfname⟩ := funOk_spec (P := P) (g := 30) (by kernel_rfl)
      rw [run_callFunc_body hfn hfb hfname, Oper.uponIn_enter]
      refine ⟨fun hd => by rw [g2] at hd; exact absurd hd (by simp), callsIn_loose ⟨g1, g2, g3⟩ ?_⟩
      refine (Tryd.strings_Join_none none 0 ⟨#[32]⟩ W).mono ?_
      rintro e w' ⟨rfl, rfl⟩
      exact hK _ ⟨rfl, rfl, rfl, Nat.le_refl _, fun _ _ => rfl⟩
  · exact h.elim
noncomputable def jo_c : CtrD P := ⟨30, joP, joV, jo_gives⟩
noncomputable def ZJ : Env P := ⟨⟨[], [jo_c], []⟩, [], 10, []⟩
theorem hx2 {n : Nat} {x : Nat → ByteArray} (hx : ∀ j, j < n → (x j).size ≤ 1000) : ∀ j, j < n → (Value.string (x j) = .string (tx (.string (x j))) ∧ (tx (.string (x j))).size ≤ 1000) := fun j hj => ⟨rfl, hx j hj⟩
theorem wj_row (n : Nat) (x : Nat → ByteArray) (hn : n ≤ 1000) (hx : ∀ j, j < n → (x j).size ≤ 1000) : GivesD P 20 [.row ⟨9, 1, n, fun j => .string (x j), false⟩] (.string (jF x n)) :=
  givesD_of_run (E := ZJ) (lv := 2) (ds := []) (v := .string (jF x n)) (ps := [joP [.row ⟨9, 1, n, fun j => .string (x j), false⟩, .v (.string ⟨#[32]⟩)]]) mo (by kernel_rfl) (ps_cons ⟨rfl, rfl, hn, hx2 hx, rfl⟩ ps_nil) rfl
theorem wj_nil  : GivesD P 20 [.v (.slice none 0 0)] (.string (ByteArray.empty)) :=
  givesD_of_run (E := ZJ) (lv := 2) (ds := []) (v := .string (ByteArray.empty)) (ps := [joP [.v (.slice none 0 0), .v (.string ⟨#[32]⟩)]]) mo (by kernel_rfl) (ps_cons ⟨rfl, rfl⟩ ps_nil) rfl
def wjP : List DV → Prop
  | [.row q] => q.sz = 1 ∧ q.ty = 9 ∧ q.n ≤ 1000 ∧ (∀ j, j < q.n → q.el j = .string (tx (q.el j)) ∧ (tx (q.el j)).size ≤ 1000)
  | [.v x] => x = .slice none 0 0
  | _ => False
def wjV : List DV → Value
  | [.row q] => .string (jF (fun j => tx (q.el j)) q.n)
  | _ => .string ByteArray.empty
theorem row_el {f : FuncId} {ty ty2 sz n : Nat} {el el' : Nat → Value} {own : Bool} {v : Value} (h : GivesD P f [.row ⟨ty2, sz, n, el', false⟩] v) (he : ∀ j, j < n → el' j = el j) : GivesD P f [.row ⟨ty, sz, n, el, own⟩] v :=
  fun F m o a W K Q args h1 h2 h3 h4 h5 h6 => h F m o a W K Q args h1 h2 h3 h4 (by
    match args, h5 with
    | [_], ⟨⟨p, hp, w⟩, g3⟩ =>
      refine ⟨⟨p, hp, w.n, w.cap, fun e => (by cases e), ?_⟩, g3⟩
      obtain ⟨cells, ty', fr, hc, _, hel⟩ := w.mem
      refine ⟨cells, ty', fr, hc, fun e => (by cases e), fun j hj => ?_⟩
      show (el' j).cells.size = sz ∧ ∀ i, i < sz → cells[p.off + (j * sz + i)]? = (el' j).cells[i]?
      rw [he j hj]
      exact hel j hj) h6
theorem wj_gives (ds : List DV) (h : wjP ds) : GivesD P 20 ds (wjV ds) := by
  unfold wjP at h
  split at h
  · rename_i q
    obtain ⟨ty, sz, n, el, own⟩ := q
    obtain ⟨rfl, rfl, hn, he⟩ := h
    exact row_el (wj_row n (fun j => tx (el j)) hn fun j hj => (he j hj).2) fun j hj => (he j hj).1.symm
  · subst h
    exact wj_nil
  · exact h.elim
noncomputable def wj_c : CtrD P := ⟨20, wjP, wjV, wj_gives⟩
end Go.Tx
