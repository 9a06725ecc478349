/-
  Stumpff's series as sums of rational numbers: plain arithmetic.
-/
import Derived.Test.YthadbpnapbmppaaDoorAna
set_option maxRecDepth 100000
namespace Go.An

def kf : Nat → Rat
  | 0 => 1
  | 1 => 1
  | 2 => 2
  | _ => 6
def pd (k n : Nat) : Rat := ((k : Rat) + 2 * (n : Rat) + 1) * ((k : Rat) + 2 * (n : Rat) + 2)
/-- z^n / (k + 2 n)!, each from the one ahead. -/
def pz (k : Nat) (z : Rat) : Nat → Rat
  | 0 => 1 / kf k
  | n + 1 => pz k z n * z / pd k n
def CR (k : Nat) (x : Rat) : Rat := sm (pz k (-x)) 100
theorem kf_pos (k : Nat) : 0 < kf k := by
  match k with
  | 0 | 1 | 2 | k + 3 => simp only [kf]; grind
theorem pd_ge (k n : Nat) : 2 ≤ pd k n ∧ (3 ≤ n → 32 ≤ pd k n) := by
  have a : (0 : Rat) ≤ (k : Rat) := Rat.natCast_nonneg
  have b : (0 : Rat) ≤ (n : Rat) := Rat.natCast_nonneg
  unfold pd
  constructor
  · have := Rat.mul_nonneg (show 0 ≤ (k : Rat) + 2 * (n : Rat) by grind) (show 0 ≤ (k : Rat) + 2 * (n : Rat) + 3 by grind)
    grind
  · intro h
    have c : (3 : Rat) ≤ (n : Rat) := by
      have := Rat.natCast_le_natCast.2 h
      simpa using this
    have := Rat.mul_nonneg (show 0 ≤ (k : Rat) + 2 * (n : Rat) - 6 by grind) (show 0 ≤ (k : Rat) + 2 * (n : Rat) + 9 by grind)
    grind
theorem pz_nonneg {k : Nat} {z : Rat} (h : 0 ≤ z) : ∀ n, 0 ≤ pz k z n
  | 0 => div_nonneg (by grind) (kf_pos k)
  | n + 1 => div_nonneg (Rat.mul_nonneg (pz_nonneg h n) h) (by have := (pd_ge k n).1; grind)
theorem pz_ab {k : Nat} {z Z : Rat} (h : -Z ≤ z ∧ z ≤ Z) : ∀ n, -pz k Z n ≤ pz k z n ∧ pz k z n ≤ pz k Z n
  | 0 => by
    have := div_nonneg (show (0 : Rat) ≤ 1 by grind) (kf_pos k)
    show -(1 / kf k) ≤ 1 / kf k ∧ 1 / kf k ≤ 1 / kf k
    grind
  | n + 1 => by
    have p := ab_mul_le (pz_ab (k := k) h n) h
    have hk : 0 < pd k n := by have := (pd_ge k n).1; grind
    have a := div_le_div p.1 hk
    have b := div_le_div p.2 hk
    have e : -(pz k Z n * Z) / pd k n = -(pz k Z n * Z / pd k n) := by grind
    rw [e] at a
    exact ⟨a, b⟩
theorem pz_half {k : Nat} {Z : Rat} (h0 : 0 ≤ Z) (h : Z ≤ 16) {n : Nat} (hn : 3 ≤ n) : pz k Z (n + 1) ≤ pz k Z n * (1 / 2) := by
  have hp := (pd_ge k n).2 hn
  have hz := pz_nonneg (k := k) h0 n
  have h1 := Rat.mul_nonneg hz (show 0 ≤ pd k n * (1 / 2) - Z by grind)
  have h2 := div_nonneg h1 (show 0 < pd k n by grind)
  have e : pz k Z n * (pd k n * (1 / 2) - Z) / pd k n = pz k Z n * (1 / 2) - pz k Z n * Z / pd k n := by grind
  rw [e] at h2
  show pz k Z n * Z / pd k n ≤ _
  grind
theorem pz_le {k : Nat} {Z : Rat} (h0 : 0 ≤ Z) (h : Z ≤ 16) {m : Nat} (hm : 3 ≤ m) : ∀ j, pz k Z (m + j) ≤ pz k Z m * hp2 j
  | 0 => by show pz k Z m ≤ pz k Z m * 1; grind
  | j + 1 => by
    have h1 := pz_half h0 h (k := k) (n := m + j) (by omega)
    have h2 := pz_le h0 h (k := k) hm j
    show pz k Z (m + j + 1) ≤ pz k Z m * (hp2 j * (1 / 2))
    grind
theorem pz_tail {k : Nat} {Z : Rat} (h0 : 0 ≤ Z) (h : Z ≤ 16) : ∀ (j m : Nat), 3 ≤ m → sm (fun i => pz k Z (m + i)) j ≤ 2 * pz k Z m
  | 0, m, _ => by
    have := pz_nonneg (k := k) h0 m
    show (0 : Rat) ≤ 2 * pz k Z m
    grind
  | j + 1, m, hm => by
    rw [sm_shift]
    have ih := pz_tail h0 h (k := k) j (m + 1) (by omega)
    have e : sm (fun i => pz k Z (m + (i + 1))) j = sm (fun i => pz k Z (m + 1 + i)) j := sm_congr fun i _ => by rw [show m + (i + 1) = m + 1 + i by omega]
    rw [e]
    have h1 := pz_half h0 h (k := k) hm
    show pz k Z (m + 0) + sm (fun i => pz k Z (m + 1 + i)) j ≤ 2 * pz k Z m
    rw [Nat.add_zero]
    grind
/-- What the first fourteen terms leave out. -/
theorem C_rem {k : Nat} {x : Rat} (hx : -16 ≤ x ∧ x ≤ 16) : -(2 * pz k (ab x) 14) ≤ CR k x - sm (pz k (-x)) 14 ∧ CR k x - sm (pz k (-x)) 14 ≤ 2 * pz k (ab x) 14 := by
  have ha := ab_nonneg x
  have h16 : ab x ≤ 16 := by unfold ab; split <;> grind
  have hb : -ab x ≤ -x ∧ -x ≤ ab x := by unfold ab; split <;> grind
  have d := sm_diff (f := pz k (-x)) (g := pz k (ab x)) (fun i => (pz_ab hb i).1) (fun i => (pz_ab hb i).2) (show 14 ≤ 100 by decide)
  have t := pz_tail ha h16 (k := k) 86 14 (by decide)
  have s := sm_split (pz k (ab x)) 14 86
  unfold CR
  grind
theorem pz_sign {k : Nat} (x : Rat) (n : Nat) : pz k (-x) n = pz k (ab x) n ∨ pz k (-x) n = -pz k (ab x) n := by
  have key : ∀ n, pz k (-ab x) n = pz k (ab x) n ∨ pz k (-ab x) n = -pz k (ab x) n := fun n => by
    induction n with
    | zero => exact .inl rfl
    | succ n ih =>
      show pz k (-ab x) n * -ab x / pd k n = pz k (ab x) n * ab x / pd k n ∨ pz k (-ab x) n * -ab x / pd k n = -(pz k (ab x) n * ab x / pd k n)
      rcases ih with ih | ih <;> rw [ih]
      · right; grind
      · left; grind
  by_cases h : 0 ≤ x
  · have e : ab x = x := by unfold ab; rw [if_pos h]
    rw [e] at key ⊢
    exact key n
  · have e : ab x = -x := by unfold ab; rw [if_neg h]
    rw [e]; exact .inl rfl

/-! ### How steep -/
def lz (k : Nat) : Nat → Rat
  | 0 => 0
  | n + 1 => (lz k n * 16 + pz k 16 n) / pd k n
theorem lz_nonneg (k : Nat) : ∀ n, 0 ≤ lz k n
  | 0 => by show (0 : Rat) ≤ 0; grind
  | n + 1 => by
    have h := lz_nonneg k n
    have p := pz_nonneg (k := k) (z := 16) (by grind) n
    exact div_nonneg (by grind) (by have := (pd_ge k n).1; grind)
theorem pz_lips {k : Nat} {z w : Rat} (hz : -16 ≤ z ∧ z ≤ 16) (hw : -16 ≤ w ∧ w ≤ 16) : ∀ n, -(ab (z - w) * lz k n) ≤ pz k z n - pz k w n ∧ pz k z n - pz k w n ≤ ab (z - w) * lz k n
  | 0 => by
    show -(ab (z - w) * 0) ≤ 1 / kf k - 1 / kf k ∧ 1 / kf k - 1 / kf k ≤ ab (z - w) * 0
    grind
  | n + 1 => by
    have ih := pz_lips hz hw (k := k) n
    have p1 := ab_mul_le ih hz
    have p2 := ab_mul_le (pz_ab (k := k) hw n) (ab_le (z - w))
    have hk : 0 < pd k n := by have := (pd_ge k n).1; grind
    have e : pz k z (n + 1) - pz k w (n + 1) = ((pz k z n - pz k w n) * z + pz k w n * (z - w)) / pd k n := by
      show pz k z n * z / pd k n - pz k w n * w / pd k n = _
      grind
    have e2 : ab (z - w) * lz k (n + 1) = (ab (z - w) * lz k n * 16 + pz k 16 n * ab (z - w)) / pd k n := by
      show ab (z - w) * ((lz k n * 16 + pz k 16 n) / pd k n) = _
      grind
    rw [e, e2]
    have a := div_le_div (a := -(ab (z - w) * lz k n * 16 + pz k 16 n * ab (z - w))) (b := (pz k z n - pz k w n) * z + pz k w n * (z - w)) (by grind) hk
    have b := div_le_div (a := (pz k z n - pz k w n) * z + pz k w n * (z - w)) (b := ab (z - w) * lz k n * 16 + pz k 16 n * ab (z - w)) (by grind) hk
    have e3 : -(ab (z - w) * lz k n * 16 + pz k 16 n * ab (z - w)) / pd k n = -((ab (z - w) * lz k n * 16 + pz k 16 n * ab (z - w)) / pd k n) := by grind
    rw [e3] at a
    exact ⟨a, b⟩
theorem lz_sum {k : Nat} (h : k ≤ 3) : sm (lz k) 100 ≤ 4 := by
  match k, h with
  | 0, _ => decide +kernel
  | 1, _ => decide +kernel
  | 2, _ => decide +kernel
  | 3, _ => decide +kernel
theorem C_lips {k : Nat} (hk : k ≤ 3) {x y : Rat} (hx : -16 ≤ x ∧ x ≤ 16) (hy : -16 ≤ y ∧ y ≤ 16) : -(4 * ab (x - y)) ≤ CR k x - CR k y ∧ CR k x - CR k y ≤ 4 * ab (x - y) := by
  unfold CR
  rw [← sm_sub]
  have l := fun n => pz_lips (k := k) (z := -x) (w := -y) (by grind) (by grind) n
  have e : ab (-x - -y) = ab (x - y) := by unfold ab; split <;> split <;> grind
  rw [e] at l
  have a := sm_le (f := fun n => -1 * (ab (x - y) * lz k n)) (g := fun n => pz k (-x) n - pz k (-y) n) (n := 100) fun i _ => by have := (l i).1; grind
  have b := sm_le (f := fun n => pz k (-x) n - pz k (-y) n) (g := fun n => ab (x - y) * lz k n) (n := 100) fun i _ => (l i).2
  rw [sm_mul, sm_mul] at a
  rw [sm_mul] at b
  have s := lz_sum hk
  have := Rat.mul_nonneg (ab_nonneg (x - y)) (show 0 ≤ 4 - sm (lz k) 100 by grind)
  grind
/-- Of points that are not above 0 the lesser one's is no less. -/
theorem C_anti {k : Nat} {x y : Rat} (h : x ≤ y) (hy : y ≤ 0) : CR k y ≤ CR k x := by
  unfold CR
  exact sm_le fun i _ => (pz_ab (k := k) (z := -y) (Z := -x) ⟨by grind, by grind⟩ i).2

/-! ### Ones -/
theorem pz_two (z : Rat) : ∀ n, pz 0 z (n + 1) = z * pz 2 z n ∧ pz 1 z (n + 1) = z * pz 3 z n
  | 0 => by
    have e0 : pd 0 0 = 2 := by decide +kernel
    have e1 : pd 1 0 = 6 := by decide +kernel
    constructor
    · show 1 / 1 * z / pd 0 0 = z * (1 / 2)
      rw [e0]; grind
    · show 1 / 1 * z / pd 1 0 = z * (1 / 6)
      rw [e1]; grind
  | n + 1 => by
    obtain ⟨h1, h2⟩ := pz_two z n
    have e0 : pd 0 (n + 1) = pd 2 n := by
      unfold pd
      have : ((n + 1 : Nat) : Rat) = (n : Rat) + 1 := by simp
      rw [this]
      have a : ((0 : Nat) : Rat) = 0 := rfl
      have b : ((2 : Nat) : Rat) = 2 := rfl
      rw [a, b]; grind
    have e1 : pd 1 (n + 1) = pd 3 n := by
      unfold pd
      have : ((n + 1 : Nat) : Rat) = (n : Rat) + 1 := by simp
      rw [this]
      have a : ((1 : Nat) : Rat) = 1 := rfl
      have b : ((3 : Nat) : Rat) = 3 := rfl
      rw [a, b]; grind
    constructor
    · show pz 0 z (n + 1) * z / pd 0 (n + 1) = z * (pz 2 z n * z / pd 2 n)
      rw [h1, e0]; grind
    · show pz 1 z (n + 1) * z / pd 1 (n + 1) = z * (pz 3 z n * z / pd 3 n)
      rw [h2, e1]; grind
theorem small99 {k : Nat} (hk : k ≤ 3) : 16 * pz k 16 99 ≤ 1 / 1267650600228229401496703205376 := by
  have h : k = 0 ∨ k = 1 ∨ k = 2 ∨ k = 3 := by omega
  rcases h with h | h | h | h
  · rw [h]; decide +kernel
  · rw [h]; decide +kernel
  · rw [h]; decide +kernel
  · rw [h]; decide +kernel
theorem pz99 {k : Nat} (hk : k ≤ 3) {x : Rat} (hx : -16 ≤ x ∧ x ≤ 16) : -(1 / 1267650600228229401496703205376) ≤ x * pz k (-x) 99 ∧ x * pz k (-x) 99 ≤ 1 / 1267650600228229401496703205376 := by
  have p := pz_ab (k := k) (z := -x) (Z := 16) (by grind) 99
  have m := ab_mul_le hx p
  have n := small99 hk
  generalize pz k 16 99 = u at *
  generalize x * pz k (-x) 99 = v at *
  grind
theorem CR_99 (k : Nat) (x : Rat) : CR k x = sm (pz k (-x)) (99 + 1) := rfl
theorem sm_last (f : Nat → Rat) (n : Nat) : sm f (n + 1) = sm f n + f n := rfl
theorem C_ones {x : Rat} (hx : -16 ≤ x ∧ x ≤ 16) :
    (-(1 / 1267650600228229401496703205376) ≤ CR 0 x + x * CR 2 x - 1 ∧ CR 0 x + x * CR 2 x - 1 ≤ 1 / 1267650600228229401496703205376) ∧
    (-(1 / 1267650600228229401496703205376) ≤ CR 1 x + x * CR 3 x - 1 ∧ CR 1 x + x * CR 3 x - 1 ≤ 1 / 1267650600228229401496703205376) := by
  have a := pz99 (k := 2) (by decide) hx
  have b := pz99 (k := 3) (by decide) hx
  have e0 : CR 0 x = 1 + -x * sm (pz 2 (-x)) 99 := by
    rw [CR_99, sm_shift, ← sm_mul, sm_congr fun i _ => (pz_two (-x) i).1]
    have : pz 0 (-x) 0 = 1 / 1 := rfl
    rw [this]
    grind
  have e1 : CR 1 x = 1 + -x * sm (pz 3 (-x)) 99 := by
    rw [CR_99, sm_shift, ← sm_mul, sm_congr fun i _ => (pz_two (-x) i).2]
    have : pz 1 (-x) 0 = 1 / 1 := rfl
    rw [this]
    grind
  have e2 : CR 2 x = sm (pz 2 (-x)) 99 + pz 2 (-x) 99 := by rw [CR_99, sm_last]
  have e3 : CR 3 x = sm (pz 3 (-x)) 99 + pz 3 (-x) 99 := by rw [CR_99, sm_last]
  rw [e0, e1, e2, e3]
  grind

/-! ### Cosine and sine -/
theorem tR_pz (y : Rat) : ∀ n, tR true y n = pz 0 (-(y * y)) n ∧ tR false y n = y * pz 1 (-(y * y)) n
  | 0 => by
    rw [tR_zero, tR_zero]
    constructor
    · show (1 : Rat) = 1 / 1; grind
    · show y = y * (1 / 1); grind
  | n + 1 => by
    obtain ⟨h1, h2⟩ := tR_pz y n
    rw [tR_succ, tR_succ, h1, h2]
    have a : ((0 : Nat) : Rat) = 0 := rfl
    have b : ((1 : Nat) : Rat) = 1 := rfl
    have e0 : dR true n = pd 0 n := by
      show (2 * (n : Rat) + 1) * (2 * (n : Rat) + 2) = pd 0 n
      unfold pd; rw [a]; grind
    have e1 : dR false n = pd 1 n := by
      show (2 * (n : Rat) + 2) * (2 * (n : Rat) + 3) = pd 1 n
      unfold pd; rw [b]; grind
    rw [e0, e1]
    constructor
    · show pz 0 (-(y * y)) n * (y * y) * -1 / pd 0 n = pz 0 (-(y * y)) n * -(y * y) / pd 0 n
      grind
    · show y * pz 1 (-(y * y)) n * (y * y) * -1 / pd 1 n = y * (pz 1 (-(y * y)) n * -(y * y) / pd 1 n)
      grind
theorem FR_C (y : Rat) : FR true y = CR 0 (y * y) ∧ FR false y = y * CR 1 (y * y) := by
  rw [FR_alt, FR_alt]
  unfold alt CR
  constructor
  · exact sm_congr fun i _ => (tR_pz y i).1
  · rw [← sm_mul]
    exact sm_congr fun i _ => (tR_pz y i).2
end Go.An

/-
  Stumpff's series: four times a point.
-/
namespace Go.An

def zp (z : Rat) : Nat → Rat
  | 0 => 1
  | n + 1 => zp z n * z
theorem zp_add (z : Rat) (i : Nat) : ∀ j, zp z (i + j) = zp z i * zp z j
  | 0 => by show zp z i = zp z i * 1; grind
  | j + 1 => by
    show zp z (i + j) * z = zp z i * (zp z j * z)
    rw [zp_add z i j]; grind
theorem pz_zp (z : Rat) : ∀ n, pz 0 z n = zp z n * ex 1 (2 * n) ∧ pz 1 z n = zp z n * ex 1 (2 * n + 1)
  | 0 => by
    have a : ((0 : Nat) : Rat) = 0 := rfl
    constructor
    · show (1 : Rat) / 1 = 1 * 1; grind
    · show (1 : Rat) / 1 = 1 * (1 * 1 / (((0 : Nat) : Rat) + 1))
      rw [a]; grind
  | n + 1 => by
    obtain ⟨h1, h2⟩ := pz_zp z n
    have n0 : (0 : Rat) ≤ (n : Rat) := Rat.natCast_nonneg
    have a : ((0 : Nat) : Rat) = 0 := rfl
    have b : ((1 : Nat) : Rat) = 1 := rfl
    have c0 : ((2 * n : Nat) : Rat) = 2 * (n : Rat) := by simp
    have c1 : ((2 * n + 1 : Nat) : Rat) = 2 * (n : Rat) + 1 := by simp
    have c2 : ((2 * n + 1 + 1 : Nat) : Rat) = 2 * (n : Rat) + 2 := by
      have : 2 * n + 1 + 1 = 2 * n + 2 := rfl
      rw [this]; simp
    have e0 : pd 0 n = (2 * (n : Rat) + 1) * (2 * (n : Rat) + 2) := by unfold pd; rw [a]; grind
    have e1 : pd 1 n = (2 * (n : Rat) + 2) * (2 * (n : Rat) + 3) := by unfold pd; rw [b]; grind
    have h3 : 2 * (n : Rat) + 1 ≠ 0 := by grind
    have h4 : 2 * (n : Rat) + 2 ≠ 0 := by grind
    have h5 : 2 * (n : Rat) + 3 ≠ 0 := by grind
    have h6 : 2 * (n : Rat) + 1 + 1 ≠ 0 := by grind
    have h7 : 2 * (n : Rat) + 2 + 1 ≠ 0 := by grind
    constructor
    · show pz 0 z n * z / pd 0 n = zp z n * z * (ex 1 (2 * n) * 1 / (((2 * n : Nat) : Rat) + 1) * 1 / (((2 * n + 1 : Nat) : Rat) + 1))
      rw [h1, e0, c0, c1]; grind
    · show pz 1 z n * z / pd 1 n = zp z n * z * (ex 1 (2 * n + 1) * 1 / (((2 * n + 1 : Nat) : Rat) + 1) * 1 / (((2 * n + 1 + 1 : Nat) : Rat) + 1))
      rw [h2, e1, c1, c2]; grind
theorem ex_two : ∀ n, ex 2 n = zp 2 n * ex 1 n
  | 0 => by show (1 : Rat) = 1 * 1; grind
  | n + 1 => by
    show ex 2 n * 2 / ((n : Rat) + 1) = zp 2 n * 2 * (ex 1 n * 1 / ((n : Rat) + 1))
    rw [ex_two n]; grind
theorem zp_four (z : Rat) : ∀ n, zp z n * zp 2 (2 * n) = zp (4 * z) n
  | 0 => by show (1 : Rat) * 1 = 1; grind
  | n + 1 => by
    show zp z n * z * (zp 2 (2 * n) * 2 * 2) = zp (4 * z) n * (4 * z)
    rw [← zp_four z n]; grind
theorem even_sum (a : Nat → Rat) : ∀ n, sm (fun j => (1 + sg j) * a j) (2 * n + 1) = 2 * sm (fun i => a (2 * i)) (n + 1)
  | 0 => by
    show 0 + (1 + 1) * a 0 = 2 * (0 + a (2 * 0))
    grind
  | n + 1 => by
    have ih := even_sum a n
    have s1 : sg (2 * n + 1) = -1 := by unfold sg; rw [if_neg (by omega)]
    have s2 : sg (2 * n + 2) = 1 := by unfold sg; rw [if_pos (by omega)]
    show sm (fun j => (1 + sg j) * a j) (2 * n + 1) + (1 + sg (2 * n + 1)) * a (2 * n + 1) + (1 + sg (2 * n + 2)) * a (2 * n + 2) = 2 * (sm (fun i => a (2 * i)) (n + 1) + a (2 * (n + 1)))
    rw [ih, s1, s2, show 2 * (n + 1) = 2 * n + 2 by omega]
    grind
theorem sg_sum (m : Nat) : sm (fun j => (1 + sg j) * (ex 1 j * ex 1 (m - j))) (m + 1) = ex 2 m + ex 0 m := by
  have b1 := binom 1 1 m
  have b2 := binom (-1) 1 m
  have e1 : (1 : Rat) + 1 = 2 := by grind
  have e2 : (-1 : Rat) + 1 = 0 := by grind
  rw [e1] at b1
  rw [e2] at b2
  rw [← b1, ← b2, ← sm_add]
  refine sm_congr fun i _ => ?_
  have : ex (-1) i = sg i * ex 1 i := ex_neg 1 i
  rw [this]; grind
theorem bin_even (n : Nat) : 2 * sm (fun i => ex 1 (2 * i) * ex 1 (2 * (n - i))) (n + 1) = ex 2 (2 * n) + ex 0 (2 * n) := by
  rw [← sg_sum, even_sum (fun j => ex 1 j * ex 1 (2 * n - j))]
  congr 1
  refine sm_congr fun i hi => ?_
  rw [show 2 * n - 2 * i = 2 * (n - i) by omega]
theorem bin_odd (n : Nat) : 2 * sm (fun i => ex 1 (2 * i) * ex 1 (2 * (n - i) + 1)) (n + 1) = ex 2 (2 * n + 1) := by
  have h := sg_sum (2 * n + 1)
  have s1 : sg (2 * n + 1) = -1 := by unfold sg; rw [if_neg (by omega)]
  have e : sm (fun j => (1 + sg j) * (ex 1 j * ex 1 (2 * n + 1 - j))) (2 * n + 1 + 1) = sm (fun j => (1 + sg j) * (ex 1 j * ex 1 (2 * n + 1 - j))) (2 * n + 1) := by
    show sm _ (2 * n + 1) + (1 + sg (2 * n + 1)) * _ = _
    rw [s1]; grind
  rw [e, even_sum (fun j => ex 1 j * ex 1 (2 * n + 1 - j)), ex_zero] at h
  have g : sm (fun i => ex 1 (2 * i) * ex 1 (2 * n + 1 - 2 * i)) (n + 1) = sm (fun i => ex 1 (2 * i) * ex 1 (2 * (n - i) + 1)) (n + 1) := by
    refine sm_congr fun i hi => ?_
    rw [show 2 * n + 1 - 2 * i = 2 * (n - i) + 1 by omega]
  rw [g] at h
  grind
theorem tri_diag (f : Nat → Nat → Rat) : ∀ m, tri f m = sm (fun n => sm (fun i => f i (n - i)) (n + 1)) m
  | 0 => rfl
  | m + 1 => by rw [tri_succ, tri_diag f m]; rfl
theorem diag00 (z : Rat) (n : Nat) : 2 * sm (fun i => pz 0 z i * pz 0 z (n - i)) (n + 1) = pz 0 (4 * z) n + zp z n * ex 0 (2 * n) := by
  have e : sm (fun i => pz 0 z i * pz 0 z (n - i)) (n + 1) = sm (fun i => zp z n * (ex 1 (2 * i) * ex 1 (2 * (n - i)))) (n + 1) := by
    refine sm_congr fun i hi => ?_
    rw [(pz_zp z i).1, (pz_zp z (n - i)).1]
    have : zp z n = zp z i * zp z (n - i) := by rw [← zp_add, show i + (n - i) = n by omega]
    rw [this]; grind
  rw [e, sm_mul, (pz_zp (4 * z) n).1, ← zp_four]
  have b := bin_even n
  rw [ex_two] at b
  grind
theorem diag01 (z : Rat) (n : Nat) : sm (fun i => pz 0 z i * pz 1 z (n - i)) (n + 1) = pz 1 (4 * z) n := by
  have e : sm (fun i => pz 0 z i * pz 1 z (n - i)) (n + 1) = sm (fun i => zp z n * (ex 1 (2 * i) * ex 1 (2 * (n - i) + 1))) (n + 1) := by
    refine sm_congr fun i hi => ?_
    rw [(pz_zp z i).1, (pz_zp z (n - i)).2]
    have : zp z n = zp z i * zp z (n - i) := by rw [← zp_add, show i + (n - i) = n by omega]
    rw [this]; grind
  rw [e, sm_mul, (pz_zp (4 * z) n).2, ← zp_four]
  have b := bin_odd n
  rw [ex_two] at b
  have : zp 2 (2 * n + 1) = zp 2 (2 * n) * 2 := rfl
  rw [this] at b
  grind
theorem zz (z : Rat) (m : Nat) : sm (fun n => zp z n * ex 0 (2 * n)) (m + 1) = 1 := by
  rw [sm_shift, sm_congr (g := fun _ => 0) fun i _ => by rw [show 2 * (i + 1) = (2 * i + 1) + 1 by omega, ex_zero]; grind, sm_zero]
  show (1 : Rat) * 1 + 0 = 1
  grind
theorem tri00 (z : Rat) (m : Nat) : 2 * tri (fun i j => pz 0 z i * pz 0 z j) (m + 1) = sm (pz 0 (4 * z)) (m + 1) + 1 := by
  rw [tri_diag, ← sm_mul, sm_congr fun i _ => diag00 z i, sm_add, zz]
theorem tri01 (z : Rat) (m : Nat) : tri (fun i j => pz 0 z i * pz 1 z j) m = sm (pz 1 (4 * z)) m := by
  rw [tri_diag, sm_congr fun i _ => diag01 z i]
def del : Rat := 1 / 1267650600228229401496703205376
theorem small16 : pz 0 16 100 * 4 ≤ del ∧ pz 1 16 100 * 4 ≤ del := by constructor <;> decide +kernel
theorem C_four {x : Rat} (hx : -4 ≤ x ∧ x ≤ 4) :
    (-del ≤ 2 * (CR 0 x * CR 0 x) - 1 - CR 0 (4 * x) ∧ 2 * (CR 0 x * CR 0 x) - 1 - CR 0 (4 * x) ≤ del) ∧
    (-del ≤ CR 0 x * CR 1 x - CR 1 (4 * x) ∧ CR 0 x * CR 1 x - CR 1 (4 * x) ≤ del) := by
  have hz : -4 ≤ -x ∧ -x ≤ 4 := by grind
  have e4 : (4 : Rat) * 4 = 16 := by grind
  have e4x : -(4 * x) = 4 * -x := by grind
  have n0 : ∀ k i, 0 ≤ pz k 4 i := fun k i => pz_nonneg (by grind) i
  have bd : ∀ k l i j, -(pz k 4 i * pz l 4 j) ≤ pz k (-x) i * pz l (-x) j ∧ pz k (-x) i * pz l (-x) j ≤ pz k 4 i * pz l 4 j := fun k l i j => ab_mul_le (pz_ab hz i) (pz_ab hz j)
  have s := small16
  unfold CR
  rw [e4x]
  constructor
  · have d := sqr_tri (f := fun i j => pz 0 (-x) i * pz 0 (-x) j) (g := fun i j => pz 0 4 i * pz 0 4 j) (fun i j => (bd 0 0 i j).1) (fun i j => (bd 0 0 i j).2) 100
    have u := sqr_le_tri (g := fun i j => pz 0 4 i * pz 0 4 j) (fun i j => Rat.mul_nonneg (n0 _ _) (n0 _ _)) 100
    have t1 := tri00 (-x) 99
    have t2 := tri00 4 99
    have t3 := tri00 4 199
    rw [e4] at t2 t3
    have sp := sm_split (pz 0 16) 100 100
    have tl := pz_tail (k := 0) (Z := 16) (by grind) (by grind) 100 100 (by decide)
    have sf := sqr_prod (pz 0 (-x)) (pz 0 (-x)) 100
    grind
  · have d := sqr_tri (f := fun i j => pz 0 (-x) i * pz 1 (-x) j) (g := fun i j => pz 0 4 i * pz 1 4 j) (fun i j => (bd 0 1 i j).1) (fun i j => (bd 0 1 i j).2) 100
    have u := sqr_le_tri (g := fun i j => pz 0 4 i * pz 1 4 j) (fun i j => Rat.mul_nonneg (n0 _ _) (n0 _ _)) 100
    have t1 := tri01 (-x) 100
    have t2 := tri01 4 100
    have t3 := tri01 4 200
    rw [e4] at t2 t3
    have sp := sm_split (pz 1 16) 100 100
    have tl := pz_tail (k := 1) (Z := 16) (by grind) (by grind) 100 100 (by decide)
    have sf := sqr_prod (pz 0 (-x)) (pz 1 (-x)) 100
    grind
end Go.An
