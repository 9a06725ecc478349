/-
  Texts behind texts: runes, words. Plain.
-/
import Derived.Test.YtpeepbgpcmodcaaDoorTxN
set_option maxRecDepth 100000
namespace Go.Tx
open Go
theorem decodeN_grow {n m b0 b1 b2 b3 c1 c2 c3 : Nat} (hn : n ≤ m) (h1 : 1 < n → c1 = b1) (h2 : 2 < n → c2 = b2) (h3 : 3 < n → c3 = b3) (hr : (Lib.decodeN n b0 b1 b2 b3).1 ≠ 65533) :
    Lib.decodeN m b0 c1 c2 c3 = Lib.decodeN n b0 b1 b2 b3 := by
  by_cases k0 : b0 < 128
  · rw [Lib.decodeN, Lib.decodeN, if_pos k0, if_pos k0]
  · by_cases k1 : b0 / 32 = 6 ∧ (1 < n ∧ b1 / 64 = 2)
    · have e1 := h1 k1.2.1
      subst e1
      rw [Lib.decodeN, Lib.decodeN, if_neg k0, if_neg k0, if_pos k1, if_pos ⟨k1.1, by omega, k1.2.2⟩]
    · by_cases k2 : b0 / 16 = 14 ∧ (1 < n ∧ b1 / 64 = 2) ∧ (2 < n ∧ b2 / 64 = 2)
      · have e1 := h1 k2.2.1.1
        have e2 := h2 k2.2.2.1
        subst e1 e2
        rw [Lib.decodeN, Lib.decodeN, if_neg k0, if_neg k0, if_neg k1, if_neg (by omega), if_pos k2, if_pos ⟨k2.1, ⟨by omega, k2.2.1.2⟩, by omega, k2.2.2.2⟩]
      · by_cases k3 : b0 / 8 = 30 ∧ (1 < n ∧ b1 / 64 = 2) ∧ (2 < n ∧ b2 / 64 = 2) ∧ (3 < n ∧ b3 / 64 = 2)
        · have e1 := h1 k3.2.1.1
          have e2 := h2 k3.2.2.1.1
          have e3 := h3 k3.2.2.2.1
          subst e1 e2 e3
          rw [Lib.decodeN, Lib.decodeN, if_neg k0, if_neg k0, if_neg k1, if_neg (by omega), if_neg k2, if_neg (by omega), if_pos k3, if_pos ⟨k3.1, ⟨by omega, k3.2.1.2⟩, ⟨by omega, k3.2.2.1.2⟩, by omega, k3.2.2.2.2⟩]
        · rw [Lib.decodeN, if_neg k0, if_neg k1, if_neg k2, if_neg k3] at hr
          exact absurd rfl hr
theorem get_left {a b : ByteArray} {i : Nat} (h : i < a.size) : (a ++ b).get! i = a.get! i := by
  rw [get_data, get_data, ByteArray.data_append, Array.getElem?_append_left (show i < a.data.size from h)]
theorem get_right (a b : ByteArray) (i : Nat) : (a ++ b).get! (a.size + i) = b.get! i := by
  rw [get_data, get_data, ByteArray.data_append, Array.getElem?_append_right (show a.data.size ≤ a.size + i from Nat.le_add_right _ _)]
  show (b.data[a.size + i - a.size]?).getD 0 = _
  rw [Nat.add_sub_cancel_left]
theorem dec_left {a b : ByteArray} {p : Nat} (hp : p < a.size) (hr : (Utf8.decode a p).1 ≠ 65533) : Utf8.decode (a ++ b) p = Utf8.decode a p := by
  rw [Lib.decode_at] at hr
  rw [Lib.decode_at, Lib.decode_at, get_left hp]
  have hs : (a ++ b).size = a.size + b.size := ByteArray.size_append
  exact decodeN_grow (by omega) (fun h => by rw [get_left (by omega)]) (fun h => by rw [get_left (by omega)]) (fun h => by rw [get_left (by omega)]) hr
theorem dec_right (a b : ByteArray) (p : Nat) : Utf8.decode (a ++ b) (a.size + p) = Utf8.decode b p := by
  rw [Lib.decode_at, Lib.decode_at, get_right, Nat.add_assoc, Nat.add_assoc, Nat.add_assoc, get_right, get_right, get_right]
  have hs : (a ++ b).size = a.size + b.size := ByteArray.size_append
  congr 1
  omega
def Gd (a : ByteArray) : Prop := ∀ k, k < cn a → rn a k ≠ 65533
section
variable {a b : ByteArray}
theorem ps_left (h : Gd a) : ∀ k, k ≤ cn a → ps (a ++ b) k = ps a k
  | 0, _ => rfl
  | k + 1, hk => by
    have ih := ps_left h k (by omega)
    show ps (a ++ b) k + (Utf8.decode (a ++ b) (ps (a ++ b) k)).2 = _
    rw [ih, dec_left (cn_lt (by omega)) (h k (by omega))]
    rfl
theorem rn_left (h : Gd a) {k : Nat} (hk : k < cn a) : rn (a ++ b) k = rn a k := by
  unfold rn
  rw [ps_left h k (by omega), dec_left (cn_lt hk) (h k hk)]
theorem ps_right (h : Gd a) : ∀ k, ps (a ++ b) (cn a + k) = a.size + ps b k
  | 0 => by rw [Nat.add_zero, ps_left h _ (Nat.le_refl _), ps_end]; rfl
  | k + 1 => by
    have ih := ps_right h k
    show ps (a ++ b) (cn a + k) + (Utf8.decode (a ++ b) (ps (a ++ b) (cn a + k))).2 = _
    rw [ih, dec_right, Nat.add_assoc]
    rfl
theorem rn_right (h : Gd a) (k : Nat) : rn (a ++ b) (cn a + k) = rn b k := by
  unfold rn
  rw [ps_right h, dec_right]
theorem cn_app (h : Gd a) : cn (a ++ b) = cn a + cn b := by
  have hs : (a ++ b).size = a.size + b.size := ByteArray.size_append
  have h1 : ¬ cn a + cn b < cn (a ++ b) := fun hc => by
    have := cn_lt hc
    rw [ps_right h, ps_end] at this
    omega
  rcases Nat.lt_or_ge (cn (a ++ b)) (cn a + cn b) with hlt | hge
  · exfalso
    have he := ps_end (a ++ b)
    rcases Nat.lt_or_ge (cn (a ++ b)) (cn a) with h2 | h2
    · have := cn_lt h2
      rw [ps_left h _ (by omega)] at he
      omega
    · have e : cn (a ++ b) = cn a + (cn (a ++ b) - cn a) := by omega
      rw [e, ps_right h] at he
      have := cn_lt (s := b) (k := cn (a ++ b) - cn a) (by omega)
      omega
  · omega
theorem gd_app (ha : Gd a) (hb : Gd b) : Gd (a ++ b) := fun k hk => by
  rw [cn_app ha] at hk
  rcases Nat.lt_or_ge k (cn a) with h | h
  · rw [rn_left ha h]; exact ha k h
  · have e : k = cn a + (k - cn a) := by omega
    rw [e, rn_right ha]
    exact hb _ (by omega)
theorem ext_left {i j : Nat} (hj : j ≤ a.size) : (a ++ b).extract i j = a.extract i j := by
  rw [ByteArray.extract_append]
  have : b.extract (i - a.size) (j - a.size) = ByteArray.empty := by
    rw [show j - a.size = 0 by omega]
    apply ByteArray.ext
    simp
  rw [this, ByteArray.append_empty]
theorem sst_left (h : Gd a) : ∀ k, k ≤ cn a → sst (a ++ b) k = sst a k
  | 0, _ => rfl
  | k + 1, hk => by
    have ih := sst_left h k (by omega)
    rw [sst, sst, ih, rn_left h (by omega), ps_left h k (by omega), ext_left (Nat.le_of_lt (cn_lt (by omega)))]
end
def E (s : ByteArray) : Int × Nat × List (Int × ByteArray) := sst s (cn s)
theorem sw_E (s : ByteArray) : sw s = if decide ((E s).1 ≥ 0) then (E s).2.2 ++ [((E s).1, s.extract (E s).2.1 s.size)] else (E s).2.2 := rfl
structure Wd (w : ByteArray) : Prop where
  pos : 0 < cn w
  all : ∀ k, k < cn w → kd (rn w k) = 0
theorem Wd.gd {w : ByteArray} (h : Wd w) : Gd w := fun k hk e => by
  have := h.all k hk
  rw [e] at this
  cases this
structure Bk (z : ByteArray) : Prop where
  one : cn z = 1
  kd : kd (rn z 0) = 1
theorem Bk.gd {z : ByteArray} (h : Bk z) : Gd z := fun k hk e => by
  rw [h.one] at hk
  have e0 : k = 0 := by omega
  subst e0
  have := h.kd
  rw [e] at this
  cases this
theorem E_word {a w : ByteArray} {b : Int} {f : Nat} {L : List (Int × ByteArray)} (ha : Gd a) (hw : Wd w) (h : E a = (b, f, L)) (hb : b < 0) : E (a ++ w) = ((cn a : Int), a.size, L) := by
  have key : ∀ k, k < cn w → sst (a ++ w) (cn a + (k + 1)) = ((cn a : Int), a.size, L) := by
    intro k
    induction k with
    | zero =>
      intro h0
      have h1 : sst (a ++ w) (cn a) = (b, f, L) := (sst_left ha _ (Nat.le_refl _)).trans h
      have h2 : kd (rn (a ++ w) (cn a)) = 0 := by
        have := rn_right (b := w) ha 0
        rw [Nat.add_zero] at this
        rw [this]
        exact hw.all 0 h0
      have h3 : ps (a ++ w) (cn a) = a.size := by rw [ps_left ha _ (Nat.le_refl _), ps_end]
      have := sst_b' h1 (by rw [h2]; rfl) (decide_eq_true hb)
      rw [h3] at this
      exact this
    | succ k ih =>
      intro hk
      have h1 := ih (by omega)
      have h2 : kd (rn (a ++ w) (cn a + (k + 1))) = 0 := by rw [rn_right ha]; exact hw.all _ hk
      exact sst_n' h1 (by rw [show decide (((cn a : Nat) : Int) < 0) = false from decide_eq_false (by omega)]; simp) (show (kd (rn (a ++ w) (cn a + (k + 1))) == 1 && _) = false by rw [h2]; rfl)
  unfold E
  rw [cn_app ha]
  have hp := hw.pos
  have := key (cn w - 1) (by omega)
  rw [show cn w - 1 + 1 = cn w by omega] at this
  exact this
theorem sw_word {a w : ByteArray} (ha : Gd a) (hw : Wd w) (hb : (E a).1 < 0) : sw (a ++ w) = sw a ++ [((cn a : Int), w)] ∧ (E (a ++ w)).1 ≥ 0 := by
  rcases h : E a with ⟨b, f, L⟩
  rw [h] at hb
  have h1 := E_word ha hw h hb
  rw [sw_E, sw_E, h1, h]
  dsimp only at hb ⊢
  rw [if_pos (decide_eq_true (by omega)), if_neg (by simp; omega)]
  refine ⟨?_, by omega⟩
  rw [ByteArray.extract_append_eq_right rfl ByteArray.size_append]
def Ok (s : ByteArray) : Prop := ∀ k, k < cn s → kd (rn s k) ≠ 2
theorem Ok.gd {s : ByteArray} (h : Ok s) : Gd s := fun k hk e => h k hk (by rw [e]; rfl)
theorem ok_iff (s : ByteArray) : sB s = false ↔ Ok s := by
  constructor
  · intro h k hk e
    have := good_all h k hk
    rw [e] at this
    cases this
  · intro h
    cases hb : sB s with
    | false => rfl
    | true =>
      obtain ⟨h1, _, h3⟩ := bad_at hb
      exact absurd (eq_of_beq h3) (h _ h1)
theorem Wd.ok {w : ByteArray} (h : Wd w) : Ok w := fun k hk e => by
  have := h.all k hk
  rw [e] at this
  cases this
theorem Bk.ok {z : ByteArray} (h : Bk z) : Ok z := fun k hk e => by
  rw [h.one] at hk
  have e0 : k = 0 := by omega
  subst e0
  have := h.kd
  rw [e] at this
  cases this
end Go.Tx
