/-
  Numbers' texts, rune by rune. Plain.
-/
import Derived.Test.YtpeepbgpcmodcaaDoorTxU
set_option maxRecDepth 100000
namespace Go.Tx
open Go
structure Rs (t : ByteArray) (l : List Nat) : Prop where
  gd : Gd t
  n : cn t = l.length
  at_ : ∀ k, k < l.length → rn t k = l.getD k 0
theorem rs_app {a b : ByteArray} {l m : List Nat} (ha : Rs a l) (hb : Rs b m) : Rs (a ++ b) (l ++ m) := by
  refine ⟨gd_app ha.gd hb.gd, by rw [cn_app ha.gd, ha.n, hb.n, List.length_append], fun k hk => ?_⟩
  rw [List.length_append] at hk
  rcases Nat.lt_or_ge k l.length with h | h
  · rw [rn_left ha.gd (by rw [ha.n]; exact h), ha.at_ k h]
    simp [List.getD, List.getElem?_append_left h]
  · have e : k = cn a + (k - l.length) := by rw [ha.n]; omega
    have e2 : rn (a ++ b) k = rn b (k - l.length) := by
      have := rn_right (b := b) ha.gd (k - l.length)
      rw [← e] at this
      exact this
    rw [e2, hb.at_ _ (by omega)]
    simp [List.getD, List.getElem?_append_right h]
theorem rs_nil : Rs ByteArray.empty [] := ⟨fun k hk => absurd hk (Nat.not_lt_zero k), rfl, fun k hk => absurd hk (Nat.not_lt_zero k)⟩
theorem rs_one {t : ByteArray} {r : Nat} (h1 : cn t = 1) (h2 : rn t 0 = r) (h3 : r ≠ 65533) : Rs t [r] := by
  refine ⟨fun k hk => ?_, h1, fun k hk => ?_⟩
  · have : k = 0 := by omega
    subst this
    rw [h2]; exact h3
  · have : k = 0 := by simpa using hk
    subst this
    exact h2
def As (s : ByteArray) : Prop := ∀ i, i < s.size → (s.get! i).toNat < 128
theorem as_dec {s : ByteArray} (h : As s) {i : Nat} (hi : i < s.size) : Utf8.decode s i = ((s.get! i).toNat, 1) := by
  rw [Lib.decode_at, Lib.decodeN, if_pos (h i hi)]
theorem as_ps {s : ByteArray} (h : As s) : ∀ k, k ≤ s.size → ps s k = k
  | 0, _ => rfl
  | k + 1, hk => by
    show ps s k + (Utf8.decode s (ps s k)).2 = _
    rw [as_ps h k (by omega), as_dec h (by omega)]
theorem as_cn {s : ByteArray} (h : As s) : cn s = s.size := by
  have h1 := cn_le s
  rcases Nat.lt_or_ge (cn s) s.size with h2 | h2
  · have := (cn_iff s (cn s)).1 (by rw [as_ps h _ h1]; exact h2)
    omega
  · omega
theorem as_rn {s : ByteArray} (h : As s) {k : Nat} (hk : k < s.size) : rn s k = (s.get! k).toNat := by
  unfold rn
  rw [as_ps h k (by omega), as_dec h hk]
theorem as_gd {s : ByteArray} (h : As s) : Gd s := fun k hk e => by
  rw [as_cn h] at hk
  rw [as_rn h hk] at e
  have := h k hk
  omega
theorem as_rs {s : ByteArray} (h : As s) : Rs s (s.data.toList.map (·.toNat)) := by
  refine ⟨as_gd h, by rw [as_cn h]; simp, fun k hk => ?_⟩
  have hk : k < s.size := by simpa using hk
  rw [as_rn h hk, get_data]
  have : k < s.data.size := hk
  simp only [List.getD, List.getElem?_map, Array.getElem?_toList]
  rw [Array.getElem?_eq_getElem this]
  rfl
theorem as_ext {s : ByteArray} (h : As s) (i j : Nat) : As (s.extract i j) := fun k hk => by
  rw [size_ext] at hk
  have e : (s.extract i j).get! k = s.get! (i + k) := by
    rw [get_data, get_data, ByteArray.data_extract, Array.getElem?_extract, if_pos (by show k < min j s.data.size - i; exact hk)]
  rw [e]
  exact h _ (by omega)
theorem as_get {s : ByteArray} {i j k : Nat} (hk : k < min j s.size - i) : (s.extract i j).get! k = s.get! (i + k) := by
  rw [get_data, get_data, ByteArray.data_extract, Array.getElem?_extract, if_pos (by show k < min j s.data.size - i; exact hk)]
def vl (e : List Nat) : Int := e.foldl (fun (v : Int) (d : Nat) => 10 * v + (d : Int)) 0
theorem vl_snoc (e : List Nat) (d : Nat) : vl (e ++ [d]) = 10 * vl e + (d : Int) := by
  unfold vl
  rw [List.foldl_append]
  rfl
theorem vl_nn : ∀ e : List Nat, 0 ≤ vl e := by
  intro e
  have : ∀ (l : List Nat) (v : Int), 0 ≤ v → 0 ≤ l.foldl (fun (v : Int) (d : Nat) => 10 * v + (d : Int)) v := by
    intro l
    induction l with
    | nil => intro v hv; exact hv
    | cons a l ih => intro v hv; exact ih (10 * v + (a : Int)) (by omega)
  exact this e 0 (by decide)
theorem vl_mono (e f : List Nat) : vl e ≤ vl (e ++ f) := by
  unfold vl
  rw [List.foldl_append]
  have : ∀ (l : List Nat) (v : Int), 0 ≤ v → v ≤ l.foldl (fun (v : Int) (d : Nat) => 10 * v + (d : Int)) v := by
    intro l
    induction l with
    | nil => intro v hv; exact Int.le_refl v
    | cons a l ih => intro v hv; exact Int.le_trans (by omega) (ih (10 * v + (a : Int)) (by omega))
  exact this f _ (vl_nn e)
structure Nt (t : ByteArray) (neg : Bool) (e : List Nat) (l : List Nat) : Prop where
  rs : Rs t l
  len : l.length = (if neg then 1 else 0) + e.length
  min : neg = true → mn (l.getD 0 0) = true
  dig : ∀ j, j < e.length → dg (l.getD ((if neg then 1 else 0) + j) 0) = ((e.getD j 0 : Nat) : Int) ∧ mn (l.getD ((if neg then 1 else 0) + j) 0) = false
  d9 : ∀ j, j < e.length → e.getD j 0 ≤ 9
theorem take_snoc (e : List Nat) {j : Nat} (h : j < e.length) : e.take (j + 1) = e.take j ++ [e.getD j 0] := by
  rw [List.take_succ_eq_append_getElem h]
  simp [List.getD, h]
theorem nt_mi {t : ByteArray} {neg : Bool} {e l : List Nat} (h : Nt t neg e l) (h1 : 1 ≤ e.length) : mi t = neg := by
  unfold mi
  have hl := h.len
  have h0 : 0 < l.length := by omega
  rw [h.rs.n, decide_eq_true h0, Bool.true_and, h.rs.at_ 0 h0]
  cases neg with
  | true => exact h.min rfl
  | false =>
    have := (h.dig 0 h1).2
    simpa using this
theorem nt_st {t : ByteArray} {neg : Bool} {e l : List Nat} (h : Nt t neg e l) (h1 : 1 ≤ e.length) (hv : vl e ≤ 1152921504606846976) : ∀ j, j ≤ e.length → nst t ((if neg then 1 else 0) + j) = (vl (e.take j), false, j)
  | 0, _ => by
    cases neg with
    | false => rfl
    | true =>
      have : sk t 0 = true := by
        unfold sk
        rw [nt_mi h h1]
        rfl
      show nst t (0 + 1) = _
      rw [nst_sk this]
      rfl
  | j + 1, hj => by
    have ih := nt_st h h1 hv j (by omega)
    have hl := h.len
    have hlt : (if neg then 1 else 0) + j < l.length := by omega
    have hs : sk t ((if neg then 1 else 0) + j) = false := by
      unfold sk
      rw [nt_mi h h1]
      cases neg with
      | true =>
        have : ((if true = true then 1 else 0) + j == 0) = false := by rw [if_pos rfl, beq_eq_false_iff_ne]; omega
        rw [this]; rfl
      | false => simp
    have hd : dg (rn t ((if neg then 1 else 0) + j)) = ((e.getD j 0 : Nat) : Int) := by
      rw [h.rs.at_ _ hlt]
      exact (h.dig j (by omega)).1
    have h9 := h.d9 j (by omega)
    have hm : vl (e.take (j + 1)) ≤ vl e := by
      have := vl_mono (e.take (j + 1)) (e.drop (j + 1))
      rw [List.take_append_drop] at this
      exact this
    have hv2 : vl (e.take (j + 1)) = 10 * vl (e.take j) + ((e.getD j 0 : Nat) : Int) := by rw [take_snoc e (by omega), vl_snoc]
    have hn := vl_nn (e.take j)
    have hov : ov (nst t ((if neg then 1 else 0) + j)).1 (dg (rn t ((if neg then 1 else 0) + j))) = false := by
      rw [ih, hd]
      unfold ov
      rw [wr (n := 1152921504606846976 - ((e.getD j 0 : Nat) : Int)) (by omega) (by omega), Int.tdiv_eq_ediv_of_nonneg (by omega), wr (by omega) (by omega)]
      exact decide_eq_false (by dsimp only; omega)
    show nst t ((if neg then 1 else 0) + j + 1) = _
    rw [nst_d hs (by rw [ih]) hov, ih, hd]
    unfold ad
    dsimp only
    rw [wr (n := 10 * vl (e.take j)) (by omega) (by omega), wr (by omega) (by omega), hv2]
theorem nt_nv {t : ByteArray} {neg : Bool} {e l : List Nat} (h : Nt t neg e l) (h1 : 1 ≤ e.length) (h2 : e.length ≤ 20) (hv : vl e ≤ 1152921504606846976) : nv t = (if neg then -vl e else vl e, 0) := by
  have hl := h.len
  have hag : ag t = true := by
    unfold ag
    rw [List.all_eq_true]
    intro k hk
    have hk : k < l.length := by have := List.mem_range.1 hk; rw [h.rs.n] at this; exact this
    unfold good
    by_cases h0 : k < (if neg then 1 else 0)
    · cases neg with
      | false => exact absurd h0 (Nat.not_lt_zero k)
      | true =>
        have : k = 0 := by rw [if_pos rfl] at h0; omega
        subst this
        have : sk t 0 = true := by unfold sk; rw [nt_mi h h1]; rfl
        rw [this]; rfl
    · have := (h.dig (k - (if neg then 1 else 0)) (by omega)).1
      rw [show (if neg then 1 else 0) + (k - (if neg then 1 else 0)) = k by omega] at this
      rw [h.rs.at_ k hk, this, show decide (0 ≤ ((e.getD (k - (if neg then 1 else 0)) 0 : Nat) : Int)) = true from decide_eq_true (by omega), Bool.or_true]
  have hst := nt_st h h1 hv e.length (Nat.le_refl _)
  rw [List.take_length, ← hl, ← h.rs.n] at hst
  have hn := vl_nn e
  unfold nv
  rw [if_pos hag]
  unfold nvG
  rw [hst]
  dsimp only
  rw [if_neg (by omega), if_neg (by simp), nt_mi h h1]
  cases neg with
  | true =>
    rw [if_pos rfl, if_pos rfl, wr (by omega) (by omega)]
    congr 1
    omega
  | false => rfl
def dgs (u : Nat) : List Nat := (Lib.decDigits u).map fun b => b.toNat - 48
theorem dec_byte : ∀ (u : Nat), ∀ b ∈ Lib.decDigits u, 48 ≤ b.toNat ∧ b.toNat ≤ 57 := by
  intro u
  induction u using Nat.strongRecOn with
  | ind u ih =>
    rw [Lib.decDigits]
    split
    · rename_i h
      intro b hb
      have := List.mem_singleton.1 hb
      subst this
      rw [UInt8.toNat_ofNat']
      omega
    · rename_i h
      intro b hb
      rcases List.mem_append.1 hb with hb | hb
      · exact ih (u / 10) (by omega) b hb
      · have := List.mem_singleton.1 hb
        subst this
        rw [UInt8.toNat_ofNat']
        omega
theorem dgs_vl : ∀ u : Nat, vl (dgs u) = (u : Int) := by
  intro u
  induction u using Nat.strongRecOn with
  | ind u ih =>
    unfold dgs
    rw [Lib.decDigits]
    split
    · rename_i h
      show vl [(UInt8.ofNat (48 + u)).toNat - 48] = _
      rw [UInt8.toNat_ofNat']
      show 10 * 0 + (((48 + u) % 2 ^ 8 - 48 : Nat) : Int) = _
      omega
    · rename_i h
      have := ih (u / 10) (by omega)
      unfold dgs at this
      rw [List.map_append, List.map_cons, List.map_nil, vl_snoc, this, UInt8.toNat_ofNat']
      omega
theorem dgs_len (u : Nat) : (dgs u).length = Lib.nDigits u := by
  unfold dgs
  rw [List.length_map, Lib.decDigits_length]
theorem dgs_pos (u : Nat) : 1 ≤ (dgs u).length := by rw [dgs_len]; exact Lib.nDigits_pos u
theorem dgs_19 {u : Nat} (h : u ≤ 1152921504606846976) : (dgs u).length ≤ 19 := by
  rw [dgs_len]
  rcases Nat.lt_or_ge (Lib.nDigits u) 20 with h1 | h1
  · omega
  · exfalso
    have key : ∀ (k u : Nat), Lib.nDigits u = k + 1 → 10 ^ k ≤ u ∨ k = 0 := by
      intro k
      induction k with
      | zero => intro u _; exact .inr rfl
      | succ k ih =>
        intro u hu
        by_cases h10 : u < 10
        · rw [Lib.nDigits_small h10] at hu; omega
        · rw [Lib.nDigits_big h10] at hu
          rcases ih (u / 10) (by omega) with h | h
          · refine .inl ?_
            rw [Nat.pow_succ]
            omega
          · subst h
            exact .inl (by omega)
    rcases key (Lib.nDigits u - 1) u (by omega) with h2 | h2
    · have : 10 ^ 19 ≤ 10 ^ (Lib.nDigits u - 1) := Nat.pow_le_pow_right (by decide) (by omega)
      omega
    · omega
theorem dgs_9 (u : Nat) {j : Nat} (h : j < (dgs u).length) : (dgs u).getD j 0 ≤ 9 := by
  unfold dgs at h ⊢
  rw [List.length_map] at h
  simp only [List.getD, List.getElem?_map, List.getElem?_eq_getElem h, Option.map_some, Option.getD_some]
  have := dec_byte u _ (List.getElem_mem h)
  omega
def Dg (E e : List Nat) : Prop := E.length = e.length ∧ ∀ j, j < e.length → e.getD j 0 ≤ 9 ∧ (E.getD j 0 = 48 + e.getD j 0 ∨ E.getD j 0 = 65296 + e.getD j 0)
theorem dg_nil : Dg [] [] := ⟨rfl, fun j h => absurd h (Nat.not_lt_zero j)⟩
theorem dg_app {E e F f : List Nat} (h : Dg E e) (k : Dg F f) : Dg (E ++ F) (e ++ f) := by
  refine ⟨by rw [List.length_append, List.length_append, h.1, k.1], fun j hj => ?_⟩
  rw [List.length_append] at hj
  rcases Nat.lt_or_ge j e.length with hlt | hge
  · have := h.2 j hlt
    simp only [List.getD, List.getElem?_append_left hlt, List.getElem?_append_left (show j < E.length by rw [h.1]; exact hlt)]
    exact this
  · have := k.2 (j - e.length) (by omega)
    simp only [List.getD, List.getElem?_append_right hge, List.getElem?_append_right (show E.length ≤ j by rw [h.1]; exact hge), h.1]
    exact this
theorem dg_zero : Dg [48] [0] := ⟨rfl, fun j h => by
  have : j = 0 := by simpa using h
  subst this
  exact ⟨by decide, .inl rfl⟩⟩
theorem dg_dec (u : Nat) : Dg ((Lib.decDigits u).map (·.toNat)) (dgs u) := by
  refine ⟨by unfold dgs; rw [List.length_map, List.length_map], fun j hj => ⟨dgs_9 u hj, .inl ?_⟩⟩
  unfold dgs at hj ⊢
  rw [List.length_map] at hj
  simp only [List.getD, List.getElem?_map, List.getElem?_eq_getElem hj, Option.map_some, Option.getD_some]
  have := dec_byte u _ (List.getElem_mem hj)
  omega
theorem dg_wide (u : Nat) : Dg ((Lib.decDigits u).map fun b => 65248 + b.toNat) (dgs u) := by
  refine ⟨by unfold dgs; rw [List.length_map, List.length_map], fun j hj => ⟨dgs_9 u hj, .inr ?_⟩⟩
  unfold dgs at hj ⊢
  rw [List.length_map] at hj
  simp only [List.getD, List.getElem?_map, List.getElem?_eq_getElem hj, Option.map_some, Option.getD_some]
  have := dec_byte u _ (List.getElem_mem hj)
  omega
theorem nt_mk {t : ByteArray} {neg : Bool} {m : Nat} {E e : List Nat} (hm : m = 45 ∨ m = 8722) (hr : Rs t ((if neg then [m] else []) ++ E)) (hE : Dg E e) : Nt t neg e ((if neg then [m] else []) ++ E) := by
  have hg : ∀ j, ((if neg then [m] else []) ++ E).getD ((if neg then 1 else 0) + j) 0 = E.getD j 0 := fun j => by
    cases neg with
    | true =>
      show ([m] ++ E).getD (1 + j) 0 = _
      rw [Nat.add_comm]
      rfl
    | false =>
      show ([] ++ E).getD (0 + j) 0 = _
      rw [Nat.zero_add]
      rfl
  refine ⟨hr, ?_, fun hn => ?_, fun j hj => ?_, fun j hj => (hE.2 j hj).1⟩
  · rw [List.length_append, hE.1]
    cases neg <;> rfl
  · subst hn
    show mn ((m : Nat) : Int) = true
    rcases hm with rfl | rfl <;> rfl
  · obtain ⟨h9, h⟩ := hE.2 j hj
    rw [hg j]
    rcases h with h | h
    · rw [h]
      constructor
      · unfold dg
        rw [if_pos (by omega)]
        omega
      · unfold mn
        rw [beq_eq_false_iff_ne.2 (by omega), beq_eq_false_iff_ne.2 (by omega)]
        rfl
    · rw [h]
      constructor
      · unfold dg
        rw [if_neg (by omega), if_pos (by omega)]
        omega
      · unfold mn
        rw [beq_eq_false_iff_ne.2 (by omega), beq_eq_false_iff_ne.2 (by omega)]
        rfl
def Lb (n : Int) : List UInt8 := (if n < 0 then [45] else []) ++ Lib.decDigits n.natAbs
theorem ito_eq (n : Int) : ito n = ⟨(Lb n).toArray⟩ := by
  unfold ito Lb Lib.itoa
  by_cases h : n < 0
  · rw [if_pos h, if_pos h]
    rfl
  · rw [if_neg h, if_neg h, show n.toNat = n.natAbs by omega]
    rfl
theorem lb_byte (n : Int) : ∀ b ∈ Lb n, 45 ≤ b.toNat ∧ b.toNat ≤ 57 := by
  intro b hb
  unfold Lb at hb
  rcases List.mem_append.1 hb with hb | hb
  · by_cases h : n < 0
    · rw [if_pos h] at hb
      have := List.mem_singleton.1 hb
      subst this
      decide
    · rw [if_neg h] at hb
      cases hb
  · have := dec_byte _ b hb
    omega
theorem ito_size (n : Int) : (ito n).size = (Lb n).length := by
  rw [ito_eq]
  show (Lb n).toArray.size = _
  simp
theorem ito_get {n : Int} {i : Nat} (h : i < (Lb n).length) : (ito n).get! i = (Lb n)[i] := by
  rw [ito_eq, get_data]
  simp [h]
theorem ito_as (n : Int) : As (ito n) := fun i hi => by
  rw [ito_size] at hi
  rw [ito_get hi]
  have := lb_byte n _ (List.getElem_mem hi)
  omega
theorem ito_rs (n : Int) : Rs (ito n) ((Lb n).map (·.toNat)) := by
  have := as_rs (ito_as n)
  rw [ito_eq] at this ⊢
  simpa using this
theorem ito_nt (n : Int) : Nt (ito n) (decide (n < 0)) (dgs n.natAbs) ((if decide (n < 0) then [45] else []) ++ (Lib.decDigits n.natAbs).map (·.toNat)) := by
  refine nt_mk (.inl rfl) ?_ (dg_dec _)
  have := ito_rs n
  unfold Lb at this
  by_cases h : n < 0
  · rw [if_pos h] at this
    rw [decide_eq_true h]
    exact this
  · rw [if_neg h] at this
    rw [decide_eq_false h]
    exact this
theorem nb_dgs {n : Int} : (if decide (n < 0) then -vl (dgs n.natAbs) else vl (dgs n.natAbs)) = n := by
  rw [dgs_vl]
  by_cases h : n < 0
  · rw [if_pos (decide_eq_true h)]; omega
  · rw [if_neg (by simpa using h)]; omega
theorem ito_nv {n : Int} (h0 : -1152921504606846976 ≤ n) (h1 : n ≤ 1152921504606846976) : nv (ito n) = (n, 0) := by
  have h := nt_nv (ito_nt n) (dgs_pos _) (by have := dgs_19 (u := n.natAbs) (by omega); omega) (by rw [dgs_vl]; omega)
  rw [nb_dgs] at h
  exact h
theorem kd_num {c : Int} (h0 : 45 ≤ c) (h1 : c ≤ 57) : kd c = 0 := by
  unfold kd bl
  rw [beq_eq_false_iff_ne.2 (show c ≠ 32 by omega), beq_eq_false_iff_ne.2 (show c ≠ 9 by omega), beq_eq_false_iff_ne.2 (show c ≠ 10 by omega), beq_eq_false_iff_ne.2 (show c ≠ 160 by omega), beq_eq_false_iff_ne.2 (show c ≠ 12288 by omega), beq_eq_false_iff_ne.2 (show c ≠ 127 by omega), beq_eq_false_iff_ne.2 (show c ≠ 65533 by omega), decide_eq_false (show ¬ c < 32 by omega)]
  rfl
theorem lb_pos (n : Int) : 1 ≤ (Lb n).length := by
  have := dgs_pos n.natAbs
  unfold dgs at this
  rw [List.length_map] at this
  unfold Lb
  rw [List.length_append]
  omega
theorem ito_wd (n : Int) : Wd (ito n) := by
  have h := ito_rs n
  refine ⟨by rw [h.n, List.length_map]; exact lb_pos n, fun k hk => ?_⟩
  rw [h.n, List.length_map] at hk
  rw [h.at_ k (by rw [List.length_map]; exact hk)]
  simp only [List.getD, List.getElem?_map, List.getElem?_eq_getElem hk, Option.map_some, Option.getD_some]
  have := lb_byte n _ (List.getElem_mem hk)
  exact kd_num (by omega) (by omega)
theorem st_of {s : ByteArray} (h : Wd s) : stB s = true := by
  have hE : (E ByteArray.empty).1 < 0 := show (-1 : Int) < 0 by decide
  have ho : Ok ByteArray.empty := fun k hk => absurd hk (Nat.not_lt_zero k)
  obtain ⟨h1, _⟩ := sw_word ho.gd h hE
  rw [ByteArray.empty_append] at h1
  have h1 : sw s = [(0, s)] := h1
  unfold stB
  rw [(ok_iff s).2 h.ok, h1]
  show (!false && (true && (s == s))) = true
  rw [ba_self]
  rfl
def cc (c : Int) : Nat := if Utf8.valid c then c.toNat else 65533
theorem cc_in (c : Int) : cc c < 55296 ∨ (57344 ≤ cc c ∧ cc c ≤ 1114111) := by
  unfold cc
  split
  · rename_i h
    simp only [Utf8.valid, Bool.and_eq_true, Bool.or_eq_true, decide_eq_true_eq] at h
    omega
  · omega
theorem rn0' (s : ByteArray) : rn s 0 = (Lib.decodeN s.size (s.get! 0).toNat (s.get! 1).toNat (s.get! 2).toNat (s.get! 3).toNat).1 := by
  show (Utf8.decode s 0).1 = _
  rw [Lib.decode_at]
  rfl
theorem enc_eq (c : Int) : Utf8.encode c = (if cc c < 128 then ⟨#[UInt8.ofNat (cc c)]⟩ else if cc c < 2048 then ⟨#[UInt8.ofNat (192 + cc c / 64), UInt8.ofNat (128 + cc c % 64)]⟩
    else if cc c < 65536 then ⟨#[UInt8.ofNat (224 + cc c / 4096), UInt8.ofNat (128 + cc c / 64 % 64), UInt8.ofNat (128 + cc c % 64)]⟩
    else ⟨#[UInt8.ofNat (240 + cc c / 262144), UInt8.ofNat (128 + cc c / 4096 % 64), UInt8.ofNat (128 + cc c / 64 % 64), UInt8.ofNat (128 + cc c % 64)]⟩) := rfl
theorem enc_pos (c : Int) : 0 < (Utf8.encode c).size := by
  rw [enc_eq]
  split
  · exact Nat.succ_pos _
  · split
    · exact Nat.succ_pos _
    · split <;> exact Nat.succ_pos _
theorem get10 (x0 : UInt8) (r : ByteArray) : ((⟨#[x0]⟩ : ByteArray) ++ r).get! 0 = x0 := get_left (a := ⟨#[x0]⟩) (show 0 < 1 by decide)
theorem get20 (x0 x1 : UInt8) (r : ByteArray) : ((⟨#[x0, x1]⟩ : ByteArray) ++ r).get! 0 = x0 := get_left (a := ⟨#[x0, x1]⟩) (show 0 < 2 by decide)
theorem get21 (x0 x1 : UInt8) (r : ByteArray) : ((⟨#[x0, x1]⟩ : ByteArray) ++ r).get! 1 = x1 := get_left (a := ⟨#[x0, x1]⟩) (show 1 < 2 by decide)
theorem get30 (x0 x1 x2 : UInt8) (r : ByteArray) : ((⟨#[x0, x1, x2]⟩ : ByteArray) ++ r).get! 0 = x0 := get_left (a := ⟨#[x0, x1, x2]⟩) (show 0 < 3 by decide)
theorem get31 (x0 x1 x2 : UInt8) (r : ByteArray) : ((⟨#[x0, x1, x2]⟩ : ByteArray) ++ r).get! 1 = x1 := get_left (a := ⟨#[x0, x1, x2]⟩) (show 1 < 3 by decide)
theorem get32 (x0 x1 x2 : UInt8) (r : ByteArray) : ((⟨#[x0, x1, x2]⟩ : ByteArray) ++ r).get! 2 = x2 := get_left (a := ⟨#[x0, x1, x2]⟩) (show 2 < 3 by decide)
theorem get40 (x0 x1 x2 x3 : UInt8) (r : ByteArray) : ((⟨#[x0, x1, x2, x3]⟩ : ByteArray) ++ r).get! 0 = x0 := get_left (a := ⟨#[x0, x1, x2, x3]⟩) (show 0 < 4 by decide)
theorem get41 (x0 x1 x2 x3 : UInt8) (r : ByteArray) : ((⟨#[x0, x1, x2, x3]⟩ : ByteArray) ++ r).get! 1 = x1 := get_left (a := ⟨#[x0, x1, x2, x3]⟩) (show 1 < 4 by decide)
theorem get42 (x0 x1 x2 x3 : UInt8) (r : ByteArray) : ((⟨#[x0, x1, x2, x3]⟩ : ByteArray) ++ r).get! 2 = x2 := get_left (a := ⟨#[x0, x1, x2, x3]⟩) (show 2 < 4 by decide)
theorem get43 (x0 x1 x2 x3 : UInt8) (r : ByteArray) : ((⟨#[x0, x1, x2, x3]⟩ : ByteArray) ++ r).get! 3 = x3 := get_left (a := ⟨#[x0, x1, x2, x3]⟩) (show 3 < 4 by decide)
theorem enc_rn (c : Int) (r : ByteArray) : rn (Utf8.encode c ++ r) 0 = cc c := by
  have hv := cc_in c
  rw [enc_eq]
  generalize cc c = v at hv
  have hu : ∀ x : Nat, x < 256 → (UInt8.ofNat x).toNat = x := fun x hx => by rw [UInt8.toNat_ofNat']; omega
  by_cases h1 : v < 128
  · rw [if_pos h1, rn0', get10]
    show (Lib.decodeN _ (UInt8.ofNat v).toNat _ _ _).1 = v
    rw [hu _ (by omega), Lib.decodeN, if_pos h1]
  · rw [if_neg h1]
    by_cases h2 : v < 2048
    · rw [if_pos h2, rn0', get20, get21, ByteArray.size_append]
      show (Lib.decodeN (2 + r.size) (UInt8.ofNat (192 + v / 64)).toNat (UInt8.ofNat (128 + v % 64)).toNat _ _).1 = v
      rw [hu _ (by omega), hu _ (by omega), Lib.decodeN, if_neg (by omega), if_pos ⟨by omega, by omega, by omega⟩, if_pos (by omega)]
      show (192 + v / 64) % 32 * 64 + (128 + v % 64) % 64 = v
      omega
    · rw [if_neg h2]
      by_cases h3 : v < 65536
      · rw [if_pos h3, rn0', get30, get31, get32, ByteArray.size_append]
        show (Lib.decodeN (3 + r.size) (UInt8.ofNat (224 + v / 4096)).toNat (UInt8.ofNat (128 + v / 64 % 64)).toNat (UInt8.ofNat (128 + v % 64)).toNat _).1 = v
        rw [hu _ (by omega), hu _ (by omega), hu _ (by omega), Lib.decodeN, if_neg (by omega), if_neg (by omega), if_pos ⟨by omega, ⟨by omega, by omega⟩, by omega, by omega⟩]
        have e : (224 + v / 4096) % 16 * 4096 + (128 + v / 64 % 64) % 64 * 64 + (128 + v % 64) % 64 = v := by omega
        rw [e, if_pos (by omega)]
      · rw [if_neg h3, rn0', get40, get41, get42, get43, ByteArray.size_append]
        show (Lib.decodeN (4 + r.size) (UInt8.ofNat (240 + v / 262144)).toNat (UInt8.ofNat (128 + v / 4096 % 64)).toNat (UInt8.ofNat (128 + v / 64 % 64)).toNat (UInt8.ofNat (128 + v % 64)).toNat).1 = v
        rw [hu _ (by omega), hu _ (by omega), hu _ (by omega), hu _ (by omega), Lib.decodeN, if_neg (by omega), if_neg (by omega), if_neg (by omega), if_pos ⟨by omega, ⟨by omega, by omega⟩, ⟨by omega, by omega⟩, by omega, by omega⟩]
        have e : (240 + v / 262144) % 8 * 262144 + (128 + v / 4096 % 64) % 64 * 4096 + (128 + v / 64 % 64) % 64 * 64 + (128 + v % 64) % 64 = v := by omega
        rw [e, if_pos (by omega)]
theorem ins_bad {s : ByteArray} (hs : As s) {p : Nat} (hp : p ≤ s.size) {c : Int} (hc : dg (cc c) < 0) (hm : p = 0 → mn (cc c) = false) : nv ((s.extract 0 p ++ (ByteArray.empty ++ Utf8.encode c)) ++ s.extract p s.size) = (0, 12) := by
  rw [ByteArray.empty_append, ByteArray.append_assoc]
  have ha := as_ext hs 0 p
  have hz : (s.extract 0 p).size = p := by rw [size_ext]; omega
  have hcn : cn (s.extract 0 p) = p := by rw [as_cn ha, hz]
  have hr : rn (s.extract 0 p ++ (Utf8.encode c ++ s.extract p s.size)) p = cc c := by
    have := rn_right (b := Utf8.encode c ++ s.extract p s.size) (as_gd ha) 0
    rw [Nat.add_zero, hcn] at this
    rw [this, enc_rn]
  have hpos : 0 < cn (Utf8.encode c ++ s.extract p s.size) := (cn_iff _ 0).1 (by
    show 0 < _
    rw [ByteArray.size_append]
    have := enc_pos c
    omega)
  have hlt : p < cn (s.extract 0 p ++ (Utf8.encode c ++ s.extract p s.size)) := by rw [cn_app (as_gd ha), hcn]; omega
  have hg : good (s.extract 0 p ++ (Utf8.encode c ++ s.extract p s.size)) p = false := by
    unfold good
    rw [hr, decide_eq_false (by omega), Bool.or_false]
    unfold sk
    by_cases h0 : p = 0
    · subst h0
      unfold mi
      rw [hr, hm rfl, Bool.and_false, Bool.and_false]
    · rw [beq_eq_false_iff_ne.2 h0, Bool.false_and]
  have hag : ag (s.extract 0 p ++ (Utf8.encode c ++ s.extract p s.size)) = false := by
    cases h : ag (s.extract 0 p ++ (Utf8.encode c ++ s.extract p s.size)) with
    | false => rfl
    | true => rw [ag_true h p hlt] at hg; cases hg
  unfold nv
  rw [hag]
  rfl
end Go.Tx
