/-
set_option maxRecDepth 100000
 Sine and cosine as sums of rational numbers: plain arithmetic.
-/
import Derived.Test.YtekplphjbngabaaGreatDoorIva
namespace Go.An
def sm (f : Nat → Rat) : Nat → Rat
 | 0 => 0
 | n + 1 => sm f n + f n
theorem sm_congr {f g : Nat → Rat} : ∀ {n : Nat}, (∀ i, i < n → f i = g i) → sm f n = sm g n
 | 0, _ => rfl
 | n + 1, h => by
  show sm f n + f n = sm g n + g n
  rw [sm_congr fun i hi => h i (by omega), h n (by omega)]
theorem sm_add (f g : Nat → Rat) : ∀ n, sm (fun i => f i + g i) n = sm f n + sm g n
 | 0 => by show (0 : Rat) = 0 + 0; grind
 | n + 1 => by
  show sm (fun i => f i + g i) n + (f n + g n) = (sm f n + f n) + (sm g n + g n)
  rw [sm_add f g n]; grind
theorem sm_sub (f g : Nat → Rat) : ∀ n, sm (fun i => f i - g i) n = sm f n - sm g n
 | 0 => by show (0 : Rat) = 0 - 0; grind
 | n + 1 => by
  show sm (fun i => f i - g i) n + (f n - g n) = (sm f n + f n) - (sm g n + g n)
  rw [sm_sub f g n]; grind
theorem sm_mul (c : Rat) (f : Nat → Rat) : ∀ n, sm (fun i => c * f i) n = c * sm f n
 | 0 => by show (0 : Rat) = c * 0; grind
 | n + 1 => by
  show sm (fun i => c * f i) n + c * f n = c * (sm f n + f n)
  rw [sm_mul c f n]; grind
theorem sm_shift (f : Nat → Rat) : ∀ n, sm f (n + 1) = f 0 + sm (fun i => f (i + 1)) n
 | 0 => by show (0 : Rat) + f 0 = f 0 + 0; grind
 | n + 1 => by
  show sm f (n + 1) + f (n + 1) = f 0 + (sm (fun i => f (i + 1)) n + f (n + 1))
  rw [sm_shift f n]; grind
theorem sm_le {f g : Nat → Rat} : ∀ {n : Nat}, (∀ i, i < n → f i ≤ g i) → sm f n ≤ sm g n
 | 0, _ => by show (0 : Rat) ≤ 0; grind
 | n + 1, h => by
  have h1 := sm_le fun i (hi : i < n) => h i (by omega)
  have h2 := h n (by omega)
  show sm f n + f n ≤ sm g n + g n
  grind
theorem sm_zero : ∀ n, sm (fun _ => 0) n = 0
 | 0 => rfl
 | n + 1 => by
  show sm (fun _ => 0) n + 0 = 0
  rw [sm_zero n]; grind
theorem sm_nonneg {f : Nat → Rat} {n : Nat} (h : ∀ i, 0 ≤ f i) : 0 ≤ sm f n := by
 have := sm_le (f := fun _ => 0) (g := f) (n := n) fun i _ => h i
 rw [sm_zero] at this; exact this
theorem sm_split (f : Nat → Rat) (m : Nat) : ∀ k, sm f (m + k) = sm f m + sm (fun i => f (m + i)) k
 | 0 => by show sm f m = sm f m + 0; grind
 | k + 1 => by
  show sm f (m + k) + f (m + k) = sm f m + (sm (fun i => f (m + i)) k + f (m + k))
  rw [sm_split f m k]; grind
theorem sm_diff {f g : Nat → Rat} (h1 : ∀ i, -g i ≤ f i) (h2 : ∀ i, f i ≤ g i) {m n : Nat} (hm : m ≤ n) : -(sm g n - sm g m) ≤ sm f n - sm f m ∧ sm f n - sm f m ≤ sm g n - sm g m := by
 obtain ⟨k, rfl⟩ : ∃ k, n = m + k := ⟨n - m, by omega⟩
 rw [sm_split f, sm_split g]
 have a := sm_le (f := fun i => f (m + i)) (g := fun i => g (m + i)) (n := k) fun i _ => h2 _
 have b := sm_le (f := fun i => -1 * g (m + i)) (g := fun i => f (m + i)) (n := k) fun i _ => by have := h1 (m + i); grind
 rw [sm_mul] at b
 grind
theorem sm_mono {g : Nat → Rat} (h : ∀ i, 0 ≤ g i) {m n : Nat} (hm : m ≤ n) : sm g m ≤ sm g n := by
 obtain ⟨k, rfl⟩ : ∃ k, n = m + k := ⟨n - m, by omega⟩
 rw [sm_split]
 have := sm_nonneg (f := fun i => g (m + i)) (n := k) fun i => h _
 grind
def sqr (f : Nat → Nat → Rat) (n : Nat) : Rat := sm (fun i => sm (f i) n) n
def tri (f : Nat → Nat → Rat) (n : Nat) : Rat := sm (fun i => sm (f i) (n - i)) n
theorem tri_succ (f : Nat → Nat → Rat) (n : Nat) : tri f (n + 1) = tri f n + sm (fun i => f i (n - i)) (n + 1) := by
 have h : sm (fun i => sm (f i) (n + 1 - i)) (n + 1) = sm (fun i => sm (f i) (n - i) + f i (n - i)) (n + 1) := by
  refine sm_congr fun i hi => ?_
  rw [show n + 1 - i = (n - i) + 1 by omega]
  rfl
 unfold tri
 rw [h, sm_add]
 have e : sm (fun i => sm (f i) (n - i)) (n + 1) = sm (fun i => sm (f i) (n - i)) n + sm (f n) (n - n) := rfl
 rw [e, Nat.sub_self]
 show _ + 0 + _ = _
 grind
theorem sqr_prod (a b : Nat → Rat) (n : Nat) : sqr (fun i j => a i * b j) n = sm a n * sm b n := by
 unfold sqr
 rw [sm_congr (g := fun i => sm b n * a i) fun i _ => by rw [sm_mul]; grind, sm_mul]
 grind
theorem sqr_add (f g : Nat → Nat → Rat) (n : Nat) : sqr (fun i j => f i j + g i j) n = sqr f n + sqr g n := by
 unfold sqr
 rw [sm_congr (g := fun i => sm (f i) n + sm (g i) n) fun i _ => sm_add _ _ _, sm_add]
theorem sqr_sub (f g : Nat → Nat → Rat) (n : Nat) : sqr (fun i j => f i j - g i j) n = sqr f n - sqr g n := by
 unfold sqr
 rw [sm_congr (g := fun i => sm (f i) n - sm (g i) n) fun i _ => sm_sub _ _ _, sm_sub]
theorem sqr_congr {f g : Nat → Nat → Rat} (h : ∀ i j, f i j = g i j) (n : Nat) : sqr f n = sqr g n := by
 have : f = g := funext fun i => funext fun j => h i j
 rw [this]
theorem sqr_tri {f g : Nat → Nat → Rat} (h1 : ∀ i j, -g i j ≤ f i j) (h2 : ∀ i j, f i j ≤ g i j) (n : Nat) : -(sqr g n - tri g n) ≤ sqr f n - tri f n ∧ sqr f n - tri f n ≤ sqr g n - tri g n := by
 unfold sqr tri
 rw [← sm_sub, ← sm_sub]
 have d := fun i => sm_diff (h1 i) (h2 i) (show n - i ≤ n by omega)
 constructor
 · have b := sm_le (f := fun i => -1 * (sm (g i) n - sm (g i) (n - i))) (g := fun i => sm (f i) n - sm (f i) (n - i)) (n := n) fun i _ => by have := (d i).1; grind
   rw [sm_mul] at b
   grind
 · exact sm_le fun i _ => (d i).2
theorem sqr_le_tri {g : Nat → Nat → Rat} (h : ∀ i j, 0 ≤ g i j) (n : Nat) : sqr g n ≤ tri g (n + n) := by
 unfold sqr tri
 have a : sm (fun i => sm (g i) n) n ≤ sm (fun i => sm (g i) (n + n - i)) n := sm_le fun i hi => sm_mono (h i) (by omega)
 have b := sm_mono (g := fun i => sm (g i) (n + n - i)) (fun i => sm_nonneg (h i)) (show n ≤ n + n by omega)
 grind
def ex (x : Rat) : Nat → Rat
 | 0 => 1
 | k + 1 => ex x k * x / ((k : Rat) + 1)
theorem kpos (k : Nat) : (0 : Rat) < (k : Rat) + 1 := by
 have : (0 : Rat) ≤ (k : Rat) := Rat.natCast_nonneg
 grind
theorem ex_succ (x : Rat) (k : Nat) : ((k : Rat) + 1) * ex x (k + 1) = x * ex x k := by
 have := kpos k
 show ((k : Rat) + 1) * (ex x k * x / ((k : Rat) + 1)) = x * ex x k
 grind
theorem div_nonneg {a b : Rat} (h : 0 ≤ a) (hb : 0 < b) : 0 ≤ a / b := by
 refine Rat.not_lt.1 fun hn => ?_
 have h1 : 0 < -(a / b) := by grind
 have h2 := Rat.mul_pos h1 hb
 have h3 : a / b * b = a := by grind
 grind
theorem ex_nonneg {x : Rat} (h : 0 ≤ x) : ∀ k, 0 ≤ ex x k
 | 0 => by show (0 : Rat) ≤ 1; grind
 | k + 1 => by
  have h1 := Rat.mul_nonneg (ex_nonneg h k) h
  have h2 := kpos k
  show 0 ≤ ex x k * x / ((k : Rat) + 1)
  exact div_nonneg h1 h2
theorem binom (x y : Rat) : ∀ k, sm (fun i => ex x i * ex y (k - i)) (k + 1) = ex (x + y) k
 | 0 => by show (0 : Rat) + 1 * 1 = 1; grind
 | k + 1 => by
  have ih := binom x y k
  have hp := kpos k
  have e1 : sm (fun i => (i : Rat) * (ex x i * ex y (k + 1 - i))) (k + 2) = x * ex (x + y) k := by
   rw [sm_shift, ← ih, ← sm_mul]
   have : ((0 : Nat) : Rat) * (ex x 0 * ex y (k + 1 - 0)) = 0 := by grind
   rw [this]
   have : sm (fun i => ((i + 1 : Nat) : Rat) * (ex x (i + 1) * ex y (k + 1 - (i + 1)))) (k + 1) = sm (fun i => x * (ex x i * ex y (k - i))) (k + 1) := by
    refine sm_congr fun i _ => ?_
    have h := ex_succ x i
    rw [show k + 1 - (i + 1) = k - i by omega]
    have hc : ((i + 1 : Nat) : Rat) = (i : Rat) + 1 := by simp
    rw [hc]
    grind
   rw [this]; grind
  have e2 : sm (fun i => ((k + 1 : Nat) : Rat) * (ex x i * ex y (k + 1 - i)) - (i : Rat) * (ex x i * ex y (k + 1 - i))) (k + 2) = y * ex (x + y) k := by
   show sm _ (k + 1) + (((k + 1 : Nat) : Rat) * (ex x (k + 1) * ex y (k + 1 - (k + 1))) - ((k + 1 : Nat) : Rat) * (ex x (k + 1) * ex y (k + 1 - (k + 1)))) = _
   rw [← ih, ← sm_mul]
   have : sm (fun i => ((k + 1 : Nat) : Rat) * (ex x i * ex y (k + 1 - i)) - (i : Rat) * (ex x i * ex y (k + 1 - i))) (k + 1) = sm (fun i => y * (ex x i * ex y (k - i))) (k + 1) := by
    refine sm_congr fun i hi => ?_
    have h := ex_succ y (k - i)
    rw [show k + 1 - i = (k - i) + 1 by omega]
    have hc : ((k + 1 : Nat) : Rat) = ((k - i : Nat) : Rat) + (i : Rat) + 1 := by
     have : k + 1 = (k - i) + i + 1 := by omega
     rw [this]; simp
    rw [hc]
    grind
   rw [this]; grind
  rw [sm_sub, sm_mul, e1] at e2
  have hs := ex_succ (x + y) k
  have hc : ((k + 1 : Nat) : Rat) = (k : Rat) + 1 := by simp
  rw [hc] at e2
  have e3 : ((k : Rat) + 1) * sm (fun i => ex x i * ex y (k + 1 - i)) (k + 2) = ((k : Rat) + 1) * ex (x + y) (k + 1) := by grind
  have hne : (k : Rat) + 1 ≠ 0 := by grind
  grind
def c4 : Nat → Rat
 | 0 => 1
 | 2 => -1
 | _ => 0
def s4 : Nat → Rat
 | 1 => 1
 | 3 => -1
 | _ => 0
def cc (k : Nat) : Rat := c4 (k % 4)
def ss (k : Nat) : Rat := s4 (k % 4)
theorem mod4 (k : Nat) : k % 4 = 0 ∨ k % 4 = 1 ∨ k % 4 = 2 ∨ k % 4 = 3 := by omega
theorem cs_add (i j : Nat) : cc (i + j) = cc i * cc j - ss i * ss j ∧ ss (i + j) = ss i * cc j + cc i * ss j := by
 unfold cc ss
 rcases mod4 i with hi | hi | hi | hi <;> rcases mod4 j with hj | hj | hj | hj <;>
  rw [Nat.add_mod, hi, hj] <;> simp only [c4, s4] <;> constructor <;> grind
theorem cs_bound (k : Nat) : (-1 ≤ cc k ∧ cc k ≤ 1) ∧ (-1 ≤ ss k ∧ ss k ≤ 1) := by
 unfold cc ss
 rcases mod4 k with h | h | h | h <;> rw [h] <;> simp only [c4, s4] <;> grind
def cosN (x : Rat) (n : Nat) : Rat := sm (fun k => cc k * ex x k) n
def sinN (x : Rat) (n : Nat) : Rat := sm (fun k => ss k * ex x k) n
theorem tri_ex (w : Nat → Rat) (x y : Rat) : ∀ n, tri (fun i j => w (i + j) * (ex x i * ex y j)) n = sm (fun k => w k * ex (x + y) k) n
 | 0 => rfl
 | n + 1 => by
  rw [tri_succ, tri_ex w x y n]
  show _ = sm _ n + w n * ex (x + y) n
  rw [← binom, ← sm_mul]
  congr 1
  refine sm_congr fun i hi => ?_
  rw [show i + (n - i) = n by omega]
def ab (x : Rat) : Rat := if 0 ≤ x then x else -x
theorem ab_nonneg (x : Rat) : 0 ≤ ab x := by unfold ab; split <;> grind
theorem ab_le (x : Rat) : -ab x ≤ x ∧ x ≤ ab x := by unfold ab; split <;> grind
theorem ab_mul_le {x y a b : Rat} (h1 : -a ≤ x ∧ x ≤ a) (h2 : -b ≤ y ∧ y ≤ b) : -(a * b) ≤ x * y ∧ x * y ≤ a * b := by
 have p1 := Rat.mul_nonneg (show 0 ≤ a - x by grind) (show 0 ≤ b - y by grind)
 have p2 := Rat.mul_nonneg (show 0 ≤ a + x by grind) (show 0 ≤ b + y by grind)
 have p3 := Rat.mul_nonneg (show 0 ≤ a - x by grind) (show 0 ≤ b + y by grind)
 have p4 := Rat.mul_nonneg (show 0 ≤ a + x by grind) (show 0 ≤ b - y by grind)
 grind
theorem div_le_div {a b c : Rat} (h : a ≤ b) (hc : 0 < c) : a / c ≤ b / c := by
 have := div_nonneg (show 0 ≤ b - a by grind) hc
 have e : (b - a) / c = b / c - a / c := by grind
 grind
theorem ex_ab {x X : Rat} (h : -X ≤ x ∧ x ≤ X) : ∀ k, -ex X k ≤ ex x k ∧ ex x k ≤ ex X k
 | 0 => by show -1 ≤ (1 : Rat) ∧ (1 : Rat) ≤ 1; grind
 | k + 1 => by
  have p := ab_mul_le (ex_ab h k) h
  have hk := kpos k
  show -(ex X k * X / ((k : Rat) + 1)) ≤ ex x k * x / ((k : Rat) + 1) ∧ ex x k * x / ((k : Rat) + 1) ≤ ex X k * X / ((k : Rat) + 1)
  have a := div_le_div p.1 hk
  have b := div_le_div p.2 hk
  have e : -(ex X k * X) / ((k : Rat) + 1) = -(ex X k * X / ((k : Rat) + 1)) := by grind
  rw [e] at a
  exact ⟨a, b⟩
theorem prod_sum {w : Nat → Rat} (hw : ∀ k, -1 ≤ w k ∧ w k ≤ 1) {x y X Y : Rat} (hx : -X ≤ x ∧ x ≤ X) (hy : -Y ≤ y ∧ y ≤ Y) (n : Nat) :
 -(sm (ex (X + Y)) (n + n) - sm (ex (X + Y)) n) ≤ sqr (fun i j => w (i + j) * (ex x i * ex y j)) n - sm (fun k => w k * ex (x + y) k) n ∧
  sqr (fun i j => w (i + j) * (ex x i * ex y j)) n - sm (fun k => w k * ex (x + y) k) n ≤ sm (ex (X + Y)) (n + n) - sm (ex (X + Y)) n := by
 have hX : 0 ≤ X := by grind
 have hY : 0 ≤ Y := by grind
 have hb : ∀ i j, -(ex X i * ex Y j) ≤ w (i + j) * (ex x i * ex y j) ∧ w (i + j) * (ex x i * ex y j) ≤ ex X i * ex Y j := fun i j => by
  have p := ab_mul_le (ex_ab hx i) (ex_ab hy j)
  have q := ab_mul_le (hw (i + j)) p
  grind
 have d := sqr_tri (f := fun i j => w (i + j) * (ex x i * ex y j)) (g := fun i j => ex X i * ex Y j) (fun i j => (hb i j).1) (fun i j => (hb i j).2) n
 rw [tri_ex] at d
 have one : ∀ m, tri (fun i j => ex X i * ex Y j) m = sm (ex (X + Y)) m := fun m => by
  have := tri_ex (fun _ => 1) X Y m
  have e1 : (fun i j => (1 : Rat) * (ex X i * ex Y j)) = fun i j => ex X i * ex Y j := funext fun i => funext fun j => by grind
  have e2 : (fun k => (1 : Rat) * ex (X + Y) k) = ex (X + Y) := funext fun k => by grind
  rw [e1, e2] at this
  exact this
 have u := sqr_le_tri (g := fun i j => ex X i * ex Y j) (fun i j => Rat.mul_nonneg (ex_nonneg hX i) (ex_nonneg hY j)) n
 rw [one] at d u
 grind
theorem add_raw {x y X Y : Rat} (hx : -X ≤ x ∧ x ≤ X) (hy : -Y ≤ y ∧ y ≤ Y) (n : Nat) :
 (-(sm (ex (X + Y)) (n + n) - sm (ex (X + Y)) n) ≤ (cosN x n * cosN y n - sinN x n * sinN y n) - cosN (x + y) n ∧ (cosN x n * cosN y n - sinN x n * sinN y n) - cosN (x + y) n ≤ sm (ex (X + Y)) (n + n) - sm (ex (X + Y)) n) ∧
 (-(sm (ex (X + Y)) (n + n) - sm (ex (X + Y)) n) ≤ (sinN x n * cosN y n + cosN x n * sinN y n) - sinN (x + y) n ∧ (sinN x n * cosN y n + cosN x n * sinN y n) - sinN (x + y) n ≤ sm (ex (X + Y)) (n + n) - sm (ex (X + Y)) n) := by
 have c := prod_sum (w := cc) (fun k => (cs_bound k).1) hx hy n
 have s := prod_sum (w := ss) (fun k => (cs_bound k).2) hx hy n
 have ec : sqr (fun i j => cc (i + j) * (ex x i * ex y j)) n = cosN x n * cosN y n - sinN x n * sinN y n := by
  unfold cosN sinN
  rw [← sqr_prod, ← sqr_prod, ← sqr_sub]
  exact sqr_congr (fun i j => by rw [(cs_add i j).1]; grind) n
 have es : sqr (fun i j => ss (i + j) * (ex x i * ex y j)) n = sinN x n * cosN y n + cosN x n * sinN y n := by
  unfold cosN sinN
  rw [← sqr_prod, ← sqr_prod, ← sqr_add]
  exact sqr_congr (fun i j => by rw [(cs_add i j).2]; grind) n
 rw [ec] at c
 rw [es] at s
 exact ⟨c, s⟩
theorem ex_half {Z : Rat} (h0 : 0 ≤ Z) (h8 : Z ≤ 8) {k : Nat} (hk : 15 ≤ k) : ex Z (k + 1) ≤ ex Z k * (1 / 2) := by
 have hp := kpos k
 have he := ex_nonneg h0 k
 have hc : (15 : Rat) ≤ (k : Rat) := by
  have := Rat.natCast_le_natCast.2 hk
  simpa using this
 have h1 : 0 ≤ ex Z k * (((k : Rat) + 1) * (1 / 2) - Z) := Rat.mul_nonneg he (by grind)
 have h2 := div_nonneg h1 hp
 have e : ex Z k * (((k : Rat) + 1) * (1 / 2) - Z) / ((k : Rat) + 1) = ex Z k * (1 / 2) - ex Z k * Z / ((k : Rat) + 1) := by grind
 rw [e] at h2
 show ex Z k * Z / ((k : Rat) + 1) ≤ _
 grind
def hp2 : Nat → Rat
 | 0 => 1
 | k + 1 => hp2 k * (1 / 2)
theorem hp2_pos : ∀ k, 0 < hp2 k
 | 0 => by show (0 : Rat) < 1; grind
 | k + 1 => by
  have := hp2_pos k
  show 0 < hp2 k * (1 / 2)
  grind
theorem ex_le {Z : Rat} (h0 : 0 ≤ Z) (h8 : Z ≤ 8) : ∀ j, ex Z (15 + j) ≤ ex Z 15 * hp2 j
 | 0 => by show ex Z 15 ≤ ex Z 15 * 1; grind
 | j + 1 => by
  have h1 := ex_half h0 h8 (k := 15 + j) (by omega)
  have h2 := ex_le h0 h8 j
  show ex Z (15 + j + 1) ≤ ex Z 15 * (hp2 j * (1 / 2))
  grind
theorem tail {Z : Rat} (h0 : 0 ≤ Z) (h8 : Z ≤ 8) : ∀ (k m : Nat), 15 ≤ m → sm (fun i => ex Z (m + i)) k ≤ ex Z m * (2 - 2 * hp2 k)
 | 0, m, _ => by show (0 : Rat) ≤ ex Z m * (2 - 2 * 1); grind
 | k + 1, m, hm => by
  rw [sm_shift]
  have ih := tail h0 h8 k (m + 1) (by omega)
  have e : sm (fun i => ex Z (m + (i + 1))) k = sm (fun i => ex Z (m + 1 + i)) k := sm_congr fun i _ => by rw [show m + (i + 1) = m + 1 + i by omega]
  rw [e]
  have h1 := ex_half h0 h8 hm
  have hp := hp2_pos k
  have hl : hp2 k ≤ 1 := by
   clear ih e h1 hp
   induction k with
   | zero => show (1 : Rat) ≤ 1; grind
   | succ k ih => have := hp2_pos k; show hp2 k * (1 / 2) ≤ 1; grind
  have h2 := Rat.mul_nonneg (show 0 ≤ ex Z m * (1 / 2) - ex Z (m + 1) by grind) (show 0 ≤ 2 - 2 * hp2 k by grind)
  show ex Z (m + 0) + sm (fun i => ex Z (m + 1 + i)) k ≤ ex Z m * (2 - 2 * (hp2 k * (1 / 2)))
  rw [Nat.add_zero]
  grind
theorem ex_mono {x y : Rat} (h0 : 0 ≤ x) (h : x ≤ y) : ∀ k, ex x k ≤ ex y k
 | k => (ex_ab (x := x) (X := y) ⟨by grind, h⟩ k).2
theorem ex15 {Z : Rat} (h0 : 0 ≤ Z) (h8 : Z ≤ 8) : ex Z 15 ≤ 27 := by
 have h := ex_mono h0 h8 15
 have e : ex 8 15 ≤ 27 := by decide +kernel
 grind
abbrev NN : Nat := 200
def eps : Rat := 54 * hp2 185
theorem eps_pos : 0 < eps := by unfold eps; have := hp2_pos 185; grind
theorem eps_small : eps ≤ 1 / 1267650600228229401496703205376 := by decide +kernel
theorem tail_eps {Z : Rat} (h0 : 0 ≤ Z) (h8 : Z ≤ 8) : sm (ex Z) (NN + NN) - sm (ex Z) NN ≤ eps := by
 rw [sm_split]
 have t := tail h0 h8 NN NN (by decide)
 have l := ex_le h0 h8 185
 have f := ex15 h0 h8
 have p1 := hp2_pos NN
 have p2 := hp2_pos 185
 have h1 := Rat.mul_nonneg (show 0 ≤ 27 - ex Z 15 by grind) (Rat.le_of_lt p2)
 have h2 := Rat.mul_nonneg (ex_nonneg h0 NN) (Rat.le_of_lt p1)
 have hl : ex Z NN ≤ ex Z 15 * hp2 185 := l
 unfold eps
 grind
def cosR (x : Rat) : Rat := cosN x NN
def sinR (x : Rat) : Rat := sinN x NN
theorem add_cs {x y : Rat} (hx : -4 ≤ x ∧ x ≤ 4) (hy : -4 ≤ y ∧ y ≤ 4) :
 (-eps ≤ (cosR x * cosR y - sinR x * sinR y) - cosR (x + y) ∧ (cosR x * cosR y - sinR x * sinR y) - cosR (x + y) ≤ eps) ∧
 (-eps ≤ (sinR x * cosR y + cosR x * sinR y) - sinR (x + y) ∧ (sinR x * cosR y + cosR x * sinR y) - sinR (x + y) ≤ eps) := by
 have h := add_raw hx hy NN
 have e : (4 : Rat) + 4 = 8 := by grind
 rw [e] at h
 have t := tail_eps (Z := 8) (by grind) (by grind)
 unfold cosR sinR
 grind
def sg (k : Nat) : Rat := if k % 2 = 0 then 1 else -1
theorem ex_neg (x : Rat) : ∀ k, ex (-x) k = sg k * ex x k
 | 0 => by show (1 : Rat) = 1 * 1; grind
 | k + 1 => by
  show ex (-x) k * -x / ((k : Rat) + 1) = sg (k + 1) * (ex x k * x / ((k : Rat) + 1))
  rw [ex_neg x k]
  have : sg (k + 1) = -sg k := by
   unfold sg
   by_cases h : k % 2 = 0
   · rw [if_pos h, if_neg (by omega)]
   · rw [if_neg h, if_pos (by omega)]; grind
  rw [this]; grind
theorem cs_neg (k : Nat) : cc k * sg k = cc k ∧ ss k * sg k = -ss k := by
 unfold cc ss sg
 rcases mod4 k with h | h | h | h <;> rw [h]
 · rw [if_pos (by omega)]; simp only [c4, s4]; grind
 · rw [if_neg (by omega)]; simp only [c4, s4]; grind
 · rw [if_pos (by omega)]; simp only [c4, s4]; grind
 · rw [if_neg (by omega)]; simp only [c4, s4]; grind
theorem neg_cs (x : Rat) : cosR (-x) = cosR x ∧ sinR (-x) = -sinR x := by
 unfold cosR sinR cosN sinN
 constructor
 · refine sm_congr fun k _ => ?_
   rw [ex_neg]
   have := (cs_neg k).1
   grind
 · have : sm (fun k => ss k * ex (-x) k) NN = sm (fun k => -1 * (ss k * ex x k)) NN := by
    refine sm_congr fun k _ => ?_
    rw [ex_neg]
    have := (cs_neg k).2
    grind
   rw [this, sm_mul]; grind
theorem ex_zero : ∀ k, ex 0 (k + 1) = 0 := fun k => by
 show ex 0 k * 0 / ((k : Rat) + 1) = 0
 grind
theorem zero_cs : cosR 0 = 1 ∧ sinR 0 = 0 := by
 unfold cosR sinR cosN sinN
 constructor
 · have : sm (fun k => cc k * ex 0 k) (199 + 1) = 1 := by
    rw [sm_shift, sm_congr (g := fun _ => 0) fun i _ => by rw [ex_zero]; grind, sm_zero]
    show (1 : Rat) * 1 + 0 = 1
    grind
   exact this
 · have : sm (fun k => ss k * ex 0 k) (199 + 1) = 0 := by
    rw [sm_shift, sm_congr (g := fun _ => 0) fun i _ => by rw [ex_zero]; grind, sm_zero]
    show (0 : Rat) * 1 + 0 = 0
    grind
   exact this
theorem one_cs {x : Rat} (hx : -4 ≤ x ∧ x ≤ 4) : 1 - eps ≤ cosR x * cosR x + sinR x * sinR x ∧ cosR x * cosR x + sinR x * sinR x ≤ 1 + eps := by
 have h := (add_cs (x := x) (y := -x) hx (by grind)).1
 have e : x + -x = 0 := by grind
 rw [e, zero_cs.1, (neg_cs x).1, (neg_cs x).2] at h
 grind
theorem unit_le {c s : Rat} (h : c * c + s * s ≤ 1 + eps) : -(1 + eps) ≤ c ∧ c ≤ 1 + eps := by
 have hs := Rat.mul_nonneg (ab_nonneg s) (ab_nonneg s)
 have hs2 : ab s * ab s = s * s := by unfold ab; split <;> grind
 have he := eps_pos
 have he2 := Rat.mul_pos he he
 constructor
 · refine Rat.not_lt.1 fun hn => ?_
   have := Rat.mul_pos (show 0 < -c - (1 + eps) by grind) (show 0 < -c by grind)
   have := Rat.mul_pos (show 0 < -c - (1 + eps) by grind) he
   grind
 · refine Rat.not_lt.1 fun hn => ?_
   have := Rat.mul_pos (show 0 < c - (1 + eps) by grind) (show 0 < c by grind)
   have := Rat.mul_pos (show 0 < c - (1 + eps) by grind) he
   grind
theorem cs_le {x : Rat} (hx : -4 ≤ x ∧ x ≤ 4) : (-(1 + eps) ≤ cosR x ∧ cosR x ≤ 1 + eps) ∧ (-(1 + eps) ≤ sinR x ∧ sinR x ≤ 1 + eps) := by
 have h := (one_cs hx).2
 exact ⟨unit_le h, unit_le (c := sinR x) (s := cosR x) (by grind)⟩
end Go.An
/-
 Sine and cosine as sums: how steep they are, what a few terms leave out.
-/
namespace Go.An
def alt (u : Nat → Rat) (n : Nat) : Rat := sm (fun k => sg k * u k) n
theorem sg_succ (k : Nat) : sg (k + 1) = -sg k := by
 unfold sg
 by_cases h : k % 2 = 0
 · rw [if_pos h, if_neg (by omega)]
 · rw [if_neg h, if_pos (by omega)]; grind
theorem sg_zero : sg 0 = 1 := rfl
theorem alt_shift (u : Nat → Rat) (n : Nat) : alt u (n + 1) = u 0 - alt (fun k => u (k + 1)) n := by
 unfold alt
 rw [sm_shift, sm_congr (g := fun i => -1 * (sg i * u (i + 1))) fun i _ => by rw [sg_succ]; grind, sm_mul, sg_zero]
 grind
theorem alt_in : ∀ (n : Nat) {u : Nat → Rat}, (∀ k, 0 ≤ u k) → (∀ k, u (k + 1) ≤ u k) → 0 ≤ alt u n ∧ alt u n ≤ u 0
 | 0, u, h0, _ => by
  have := h0 0
  show (0 : Rat) ≤ 0 ∧ (0 : Rat) ≤ u 0
  grind
 | n + 1, u, h0, hd => by
  rw [alt_shift]
  have := alt_in n (u := fun k => u (k + 1)) (fun k => h0 _) (fun k => hd _)
  have := hd 0
  grind
theorem alt_split (u : Nat → Rat) (m k : Nat) : alt u (m + k) = alt u m + sg m * alt (fun i => u (m + i)) k := by
 unfold alt
 rw [sm_split, ← sm_mul]
 congr 1
 refine sm_congr fun i _ => ?_
 have : sg (m + i) = sg m * sg i := by
  unfold sg
  by_cases h1 : m % 2 = 0 <;> by_cases h2 : i % 2 = 0
  · rw [if_pos h1, if_pos h2, if_pos (by omega)]; grind
  · rw [if_pos h1, if_neg h2, if_neg (by omega)]; grind
  · rw [if_neg h1, if_pos h2, if_neg (by omega)]; grind
  · rw [if_neg h1, if_neg h2, if_pos (by omega)]; grind
 rw [this]; grind
def ix (c : Bool) (j : Nat) : Nat := bif c then 2 * j else 2 * j + 1
def FR (c : Bool) (x : Rat) : Rat := bif c then cosR x else sinR x
theorem cs_ev (n : Nat) : cc (2 * n) = sg n ∧ cc (2 * n + 1) = 0 ∧ ss (2 * n) = 0 ∧ ss (2 * n + 1) = sg n := by
 unfold cc ss sg
 by_cases h : n % 2 = 0
 · rw [if_pos h, show 2 * n % 4 = 0 by omega, show (2 * n + 1) % 4 = 1 by omega]; exact ⟨rfl, rfl, rfl, rfl⟩
 · rw [if_neg h, show 2 * n % 4 = 2 by omega, show (2 * n + 1) % 4 = 3 by omega]; exact ⟨rfl, rfl, rfl, rfl⟩
theorem N_alt (x : Rat) : ∀ n, cosN x (2 * n) = alt (fun j => ex x (2 * j)) n ∧ sinN x (2 * n) = alt (fun j => ex x (2 * j + 1)) n
 | 0 => ⟨rfl, rfl⟩
 | n + 1 => by
  obtain ⟨h1, h2⟩ := N_alt x n
  obtain ⟨c0, c1, s0, s1⟩ := cs_ev n
  constructor
  · show cosN x (2 * n) + cc (2 * n) * ex x (2 * n) + cc (2 * n + 1) * ex x (2 * n + 1) = alt (fun j => ex x (2 * j)) n + sg n * ex x (2 * n)
    rw [h1, c0, c1]; grind
  · show sinN x (2 * n) + ss (2 * n) * ex x (2 * n) + ss (2 * n + 1) * ex x (2 * n + 1) = alt (fun j => ex x (2 * j + 1)) n + sg n * ex x (2 * n + 1)
    rw [h2, s0, s1]; grind
theorem FR_alt (c : Bool) (x : Rat) : FR c x = alt (fun j => ex x (ix c j)) 100 := by
 cases c with
 | true => exact (N_alt x 100).1
 | false => exact (N_alt x 100).2
theorem ex_anti {h : Rat} (h0 : 0 ≤ h) {k : Nat} (hk : h ≤ (k : Rat) + 1) : ex h (k + 1) ≤ ex h k := by
 have hp := kpos k
 have he := ex_nonneg h0 k
 have h1 := Rat.mul_nonneg he (show 0 ≤ ((k : Rat) + 1) - h by grind)
 have h2 := div_nonneg h1 hp
 have e : ex h k * (((k : Rat) + 1) - h) / ((k : Rat) + 1) = ex h k - ex h k * h / ((k : Rat) + 1) := by grind
 rw [e] at h2
 show ex h k * h / ((k : Rat) + 1) ≤ ex h k
 grind
theorem sin_le {h : Rat} (h0 : 0 ≤ h) (h2 : h ≤ 2) : 0 ≤ sinR h ∧ sinR h ≤ h := by
 have e : sinR h = alt (fun j => ex h (2 * j + 1)) 100 := (N_alt h 100).2
 rw [e]
 have a := alt_in 100 (u := fun j => ex h (2 * j + 1)) (fun k => ex_nonneg h0 _) fun k => by
  have n0 : (0 : Rat) ≤ (k : Rat) := Rat.natCast_nonneg
  have c1 : ((2 * k + 1 : Nat) : Rat) = 2 * (k : Rat) + 1 := by simp
  have c2 : ((2 * k + 2 : Nat) : Rat) = 2 * (k : Rat) + 2 := by simp
  have a1 := ex_anti h0 (k := 2 * k + 1) (by rw [c1]; grind)
  have a2 := ex_anti h0 (k := 2 * k + 2) (by rw [c2]; grind)
  show ex h (2 * k + 2 + 1) ≤ ex h (2 * k + 1)
  grind
 have e1 : ex h (2 * 0 + 1) = h := by
  show 1 * h / (((0 : Nat) : Rat) + 1) = h
  have : ((0 : Nat) : Rat) = 0 := by simp
  rw [this]; grind
 rw [e1] at a
 exact a
theorem eps_lt : eps ≤ 1 / 1000 := by
 have := eps_small
 grind
theorem sin_ab {h : Rat} (hh : -4 ≤ h ∧ h ≤ 4) : -ab h ≤ sinR h ∧ sinR h ≤ ab h := by
 have he := eps_lt
 have hu := (cs_le hh).2
 unfold ab
 by_cases h0 : 0 ≤ h
 · rw [if_pos h0]
   by_cases h2 : h ≤ 2
   · have := sin_le h0 h2; grind
   · grind
 · rw [if_neg h0]
   by_cases h2 : -h ≤ 2
   · have := sin_le (h := -h) (by grind) h2
     rw [(neg_cs h).2] at this
     grind
   · grind
theorem lips {a b : Rat} (ha : -4 ≤ a ∧ a ≤ 4) (hb : -4 ≤ b ∧ b ≤ 4) (c : Bool) : -(ab (a - b) + 10 * eps) ≤ FR c a - FR c b ∧ FR c a - FR c b ≤ ab (a - b) + 10 * eps := by
 have hm : -4 ≤ (a + b) * (1 / 2) ∧ (a + b) * (1 / 2) ≤ 4 := by grind
 have hh : -4 ≤ (a - b) * (1 / 2) ∧ (a - b) * (1 / 2) ≤ 4 := by grind
 have p := add_cs hm hh
 have q := add_cs hm (y := -((a - b) * (1 / 2))) (by grind)
 rw [(neg_cs _).1, (neg_cs _).2] at q
 have e1 : (a + b) * (1 / 2) + (a - b) * (1 / 2) = a := by grind
 have e2 : (a + b) * (1 / 2) + -((a - b) * (1 / 2)) = b := by grind
 rw [e1] at p
 rw [e2] at q
 have u := cs_le hm
 have s := sin_ab hh
 have eab : ab ((a - b) * (1 / 2)) = ab (a - b) * (1 / 2) := by unfold ab; split <;> split <;> grind
 rw [eab] at s
 have m1 := ab_mul_le u.1 s
 have m2 := ab_mul_le u.2 s
 have h8 : ab (a - b) ≤ 8 := by unfold ab; split <;> grind
 have he := Rat.mul_nonneg (Rat.le_of_lt eps_pos) (show 0 ≤ 8 - ab (a - b) by grind)
 cases c with
 | true =>
  show -(ab (a - b) + 10 * eps) ≤ cosR a - cosR b ∧ cosR a - cosR b ≤ ab (a - b) + 10 * eps
  grind
 | false =>
  show -(ab (a - b) + 10 * eps) ≤ sinR a - sinR b ∧ sinR a - sinR b ≤ ab (a - b) + 10 * eps
  grind
theorem rem_pos {x : Rat} (h0 : 0 ≤ x) (h4 : x ≤ 4) (c : Bool) : -(ex x (ix c 13)) ≤ FR c x - alt (fun j => ex x (ix c j)) 13 ∧ FR c x - alt (fun j => ex x (ix c j)) 13 ≤ ex x (ix c 13) := by
 rw [FR_alt, show (100 : Nat) = 13 + 87 by rfl, alt_split]
 have a := alt_in 87 (u := fun i => ex x (ix c (13 + i))) (fun k => ex_nonneg h0 _) fun k => by
  have n0 : (0 : Rat) ≤ (k : Rat) := Rat.natCast_nonneg
  have key : ∀ m : Nat, 26 ≤ m → ex x (m + 2) ≤ ex x m := fun m hm => by
   have cm : (26 : Rat) ≤ (m : Rat) := by
    have := Rat.natCast_le_natCast.2 hm
    simpa using this
   have c1 : ((m + 1 : Nat) : Rat) = (m : Rat) + 1 := by simp
   have a1 := ex_anti h0 (k := m) (by grind)
   have a2 := ex_anti h0 (k := m + 1) (by rw [c1]; grind)
   show ex x (m + 1 + 1) ≤ _
   grind
  cases c with
  | true => exact key (2 * (13 + k)) (by omega)
  | false => exact key (2 * (13 + k) + 1) (by omega)
 have hs : sg 13 = -1 := rfl
 rw [hs]
 rw [Nat.add_zero] at a
 have hn := ex_nonneg h0 (ix c 13)
 grind
theorem ex_ix_neg (c : Bool) (x : Rat) (j : Nat) : ex (-x) (ix c j) = bif c then ex x (ix c j) else -ex x (ix c j) := by
 rw [ex_neg]
 cases c with
 | true =>
  have : sg (2 * j) = 1 := by unfold sg; rw [if_pos (by omega)]
  show sg (2 * j) * ex x (2 * j) = ex x (2 * j)
  rw [this]; grind
 | false =>
  have : sg (2 * j + 1) = -1 := by unfold sg; rw [if_neg (by omega)]
  show sg (2 * j + 1) * ex x (2 * j + 1) = -ex x (2 * j + 1)
  rw [this]; grind
theorem FR_neg (c : Bool) (x : Rat) : FR c (-x) = bif c then FR c x else -FR c x := by
 cases c with
 | true => exact (neg_cs x).1
 | false => exact (neg_cs x).2
theorem rem_all {x r : Rat} (hx : -4 ≤ x ∧ x ≤ 4) (c : Bool) (h1 : -r ≤ ex x (ix c 13)) (h2 : ex x (ix c 13) ≤ r) : -r ≤ FR c x - alt (fun j => ex x (ix c j)) 13 ∧ FR c x - alt (fun j => ex x (ix c j)) 13 ≤ r := by
 by_cases h0 : 0 ≤ x
 · have := rem_pos h0 hx.2 c
   grind
 · have := rem_pos (x := -x) (by grind) (by grind) c
   rw [FR_neg] at this
   have e : alt (fun j => ex (-x) (ix c j)) 13 = bif c then alt (fun j => ex x (ix c j)) 13 else -alt (fun j => ex x (ix c j)) 13 := by
    unfold alt
    cases c with
    | true => exact sm_congr fun i _ => by show sg i * ex (-x) (ix true i) = _; rw [ex_ix_neg]; rfl
    | false =>
     show sm _ 13 = -sm (fun j => sg j * ex x (ix false j)) 13
     rw [sm_congr (g := fun j => -1 * (sg j * ex x (ix false j))) fun i _ => by show sg i * ex (-x) (ix false i) = _; rw [ex_ix_neg]; show _ * -_ = _; grind, sm_mul]
     grind
   rw [e, ex_ix_neg] at this
   cases c with
   | true => simp only [cond_true] at this; grind
   | false => simp only [cond_false] at this; grind
def tR (c : Bool) (x : Rat) (j : Nat) : Rat := sg j * ex x (ix c j)
def dR (c : Bool) (j : Nat) : Rat := bif c then (2 * (j : Rat) + 1) * (2 * (j : Rat) + 2) else (2 * (j : Rat) + 2) * (2 * (j : Rat) + 3)
theorem tR_zero (c : Bool) (x : Rat) : tR c x 0 = bif c then 1 else x := by
 cases c with
 | true => show (1 : Rat) * 1 = 1; grind
 | false =>
  show (1 : Rat) * (1 * x / (((0 : Nat) : Rat) + 1)) = x
  have : ((0 : Nat) : Rat) = 0 := by simp
  rw [this]; grind
theorem tR_succ (c : Bool) (x : Rat) (j : Nat) : tR c x (j + 1) = tR c x j * (x * x) * -1 / dR c j := by
 have n0 : (0 : Rat) ≤ (j : Rat) := Rat.natCast_nonneg
 unfold tR
 rw [sg_succ]
 cases c with
 | true =>
  show -sg j * (ex x (2 * j) * x / (((2 * j : Nat) : Rat) + 1) * x / (((2 * j + 1 : Nat) : Rat) + 1)) = sg j * ex x (2 * j) * (x * x) * -1 / ((2 * (j : Rat) + 1) * (2 * (j : Rat) + 2))
  have c0 : ((2 * j : Nat) : Rat) = 2 * (j : Rat) := by simp
  have c1 : ((2 * j + 1 : Nat) : Rat) = 2 * (j : Rat) + 1 := by simp
  rw [c0, c1]
  have h1 : 2 * (j : Rat) + 1 ≠ 0 := by grind
  have h2 : 2 * (j : Rat) + 2 ≠ 0 := by grind
  have h3 : 2 * (j : Rat) + 1 + 1 ≠ 0 := by grind
  grind
 | false =>
  show -sg j * (ex x (2 * j + 1) * x / (((2 * j + 1 : Nat) : Rat) + 1) * x / (((2 * j + 1 + 1 : Nat) : Rat) + 1)) = sg j * ex x (2 * j + 1) * (x * x) * -1 / ((2 * (j : Rat) + 2) * (2 * (j : Rat) + 3))
  have c0 : ((2 * j + 1 : Nat) : Rat) = 2 * (j : Rat) + 1 := by simp
  have c1 : ((2 * j + 1 + 1 : Nat) : Rat) = 2 * (j : Rat) + 2 := by
   have : 2 * j + 1 + 1 = 2 * j + 2 := rfl
   rw [this]; simp
  rw [c0, c1]
  have h1 : 2 * (j : Rat) + 1 + 1 ≠ 0 := by grind
  have h2 : 2 * (j : Rat) + 2 ≠ 0 := by grind
  have h3 : 2 * (j : Rat) + 2 + 1 ≠ 0 := by grind
  have h4 : 2 * (j : Rat) + 3 ≠ 0 := by grind
  grind
end Go.An
/-
 What intervals hold, as rational numbers in units of 2^-30.
-/
namespace Go.An
open Go Go.Sx Go.Nm Go.Wd Go.Qt Go.Iv
def Hd (a : Iv) (r : Rat) : Prop := (a.lo : Rat) ≤ r ∧ r ≤ (a.hi : Rat)
theorem cle {x y : Int} : (x : Rat) ≤ (y : Rat) ↔ x ≤ y := Rat.intCast_le_intCast
theorem hd_point {n : Int} (h1 : -1152921504606846976 ≤ n) (h2 : n ≤ 1152921504606846976) : pointI n = ⟨n, n, false⟩ ∧ fine (pointI n) = true := by
 have hf : fine ⟨n, n, false⟩ = true := fine_iff.2 ⟨rfl, h1, Int.le_refl _, h2⟩
 have e : pointI n = ⟨n, n, false⟩ := told_ok hf
 rw [e]; exact ⟨rfl, hf⟩
theorem hd_add {a b : Iv} {r s : Rat} (h : (addI a b).bad = false) (ha : Hd a r) (hb : Hd b s) : Hd (addI a b) (r + s) := by
 obtain ⟨_, _, _, e⟩ := add_good h
 unfold Hd at *
 rw [e]
 simp only [Rat.intCast_add]
 grind
theorem hd_sub {a b : Iv} {r s : Rat} (h : (subI a b).bad = false) (ha : Hd a r) (hb : Hd b s) : Hd (subI a b) (r - s) := by
 obtain ⟨_, _, _, e⟩ := sub_good h
 unfold Hd at *
 rw [e]
 simp only [Rat.intCast_sub]
 grind
theorem hd_meet {a b : Iv} {r : Rat} (fa : fine a = true) (fb : fine b = true) (ha : Hd a r) (hb : Hd b r) : meetI a b = ⟨mx a.lo b.lo, mn a.hi b.hi, false⟩ ∧ fine (meetI a b) = true ∧ Hd (meetI a b) r := by
 have ra := fine_iff.1 fa
 have rb := fine_iff.1 fb
 unfold Hd at ha hb
 have h1 : a.lo ≤ b.hi := cle.1 (by grind)
 have h2 : b.lo ≤ a.hi := cle.1 (by grind)
 have e1 : mx a.lo b.lo ≤ mn a.hi b.hi := mn_ge.2 ⟨mx_le.2 ⟨ra.2.2.1, h2⟩, mx_le.2 ⟨h1, rb.2.2.1⟩⟩
 have g1 : a.lo ≤ mx a.lo b.lo ∧ b.lo ≤ mx a.lo b.lo := mx_le.1 (Int.le_refl _)
 have g2 : mn a.hi b.hi ≤ a.hi ∧ mn a.hi b.hi ≤ b.hi := mn_ge.1 (Int.le_refl _)
 have hf : fine ⟨mx a.lo b.lo, mn a.hi b.hi, false⟩ = true := fine_iff.2 ⟨rfl, by simp only; omega, e1, by simp only; omega⟩
 have e : meetI a b = ⟨mx a.lo b.lo, mn a.hi b.hi, false⟩ := by
  unfold meetI; rw [fine2.2 ⟨fa, fb⟩]; exact told_ok hf
 rw [e]
 refine ⟨rfl, hf, ?_, ?_⟩
 · show ((mx a.lo b.lo : Int) : Rat) ≤ r
   unfold mx; split
   · exact hb.1
   · exact ha.1
 · show r ≤ ((mn a.hi b.hi : Int) : Rat)
   unfold mn; split
   · exact hb.2
   · exact ha.2
theorem meets {a b : Iv} {r : Rat} (fa : fine a = true) (fb : fine b = true) (ha : Hd a r) (hb : Hd b r) : (meetI a b).bad = false := (fine_iff.1 (hd_meet fa fb ha hb).2.1).1
theorem lin_geR {c b1 b2 y K : Rat} (h1 : b1 ≤ y) (h2 : y ≤ b2) (k1 : K ≤ c * b1) (k2 : K ≤ c * b2) : K ≤ c * y := by
 by_cases hc : 0 ≤ c
 · have := Rat.mul_nonneg hc (show 0 ≤ y - b1 by grind)
   grind
 · have := Rat.mul_nonneg (show 0 ≤ -c by grind) (show 0 ≤ b2 - y by grind)
   grind
theorem lin_leR {c b1 b2 y K : Rat} (h1 : b1 ≤ y) (h2 : y ≤ b2) (k1 : c * b1 ≤ K) (k2 : c * b2 ≤ K) : c * y ≤ K := by
 have := lin_geR (c := -c) (K := -K) h1 h2 (by grind) (by grind)
 grind
theorem hd_mul {a b : Iv} {r s : Rat} (h : (mulI a b).bad = false) (ha : Hd a r) (hb : Hd b s) : Hd (mulI a b) (r * s / 1073741824) := by
 obtain ⟨_, _, _, mo⟩ := mul_good h
 unfold Hd at *
 have l := (mo.lo _).1 (Int.le_refl _)
 have u := (mo.hi _).1 (Int.le_refl _)
 have cl : ∀ x y : Int, Cor a b (x * y) → ((mulI a b).lo : Rat) * 1073741824 ≤ (x : Rat) * y ∧ (x : Rat) * y ≤ ((mulI a b).hi : Rat) * 1073741824 := fun x y hc => by
  have h1 := cle.2 (l _ hc)
  have h2 := cle.2 (u _ hc)
  simp only [Rat.intCast_mul] at h1 h2
  exact ⟨h1, h2⟩
 have c1 := cl a.lo b.lo (.inl rfl)
 have c2 := cl a.lo b.hi (.inr (.inl rfl))
 have c3 := cl a.hi b.lo (.inr (.inr (.inl rfl)))
 have c4 := cl a.hi b.hi (.inr (.inr (.inr rfl)))
 have g1 := lin_geR hb.1 hb.2 c1.1 c2.1
 have g2 := lin_geR hb.1 hb.2 c3.1 c4.1
 have g3 := lin_leR hb.1 hb.2 c1.2 c2.2
 have g4 := lin_leR hb.1 hb.2 c3.2 c4.2
 have k1 := lin_geR (c := s) (K := ((mulI a b).lo : Rat) * 1073741824) ha.1 ha.2 (by grind) (by grind)
 have k2 := lin_leR (c := s) (K := ((mulI a b).hi : Rat) * 1073741824) ha.1 ha.2 (by grind) (by grind)
 constructor
 · grind
 · grind
theorem part_facts {a : Iv} {n d : Int} (hn : I64 n) (hd : I64 d) (h : (partI a n d).bad = false) : d ≠ 0 ∧ fine a = true ∧ fine (partI a n d) = true ∧
 ((partI a n d).lo ≤ fq (a.lo * n) d ∧ (partI a n d).lo ≤ fq (a.hi * n) d) ∧ (cq (a.lo * n) d ≤ (partI a n d).hi ∧ cq (a.hi * n) d ≤ (partI a n d).hi) := by
 have h' := h
 unfold partI at h
 cases hc : (fineL [a] && (byOk a.lo n d && byOk a.hi n d)) with
 | false => rw [hc] at h; cases h
 | true =>
  rw [hc] at h
  obtain ⟨f1, e1⟩ := told_good h
  have e : partI a n d = partR a n d := by unfold partI; rw [hc]; exact e1
  simp only [Bool.and_eq_true] at hc
  obtain ⟨fa, q1, q2⟩ := hc
  rw [fine1] at fa
  obtain ⟨a1, a2⟩ := fine64 fa
  obtain ⟨c1, d1⟩ := by_ok a1 hn hd q1
  obtain ⟨c2, d2⟩ := by_ok a2 hn hd q2
  rw [e]
  have l := (mn_ge (k := (partR a n d).lo)).1 (Int.le_refl _)
  have u := (mx_le (k := (partR a n d).hi)).1 (Int.le_refl _)
  have l1 := (mn_ge.1 l.1).1
  have u1 := (mx_le.1 u.1).1
  rw [c1] at l1
  rw [d1] at u1
  have l2 := l.2
  have u2 := u.2
  rw [c2] at l2
  rw [d2] at u2
  exact ⟨(byOk_iff.1 q1).1, fa, f1, ⟨l1, l2⟩, ⟨u1, u2⟩⟩
theorem div_ge {x : Rat} {k d : Rat} (hd : 0 < d) (h : k * d ≤ x) : k ≤ x / d := by
 have := div_le_div h hd
 have e : k * d / d = k := by grind
 grind
theorem div_le {x : Rat} {k d : Rat} (hd : 0 < d) (h : x ≤ k * d) : x / d ≤ k := by
 have := div_le_div h hd
 have e : k * d / d = k := by grind
 grind
theorem hd_part {a : Iv} {n d : Int} {r : Rat} (hn : I64 n) (hd : I64 d) (h : (partI a n d).bad = false) (ha : Hd a r) : Hd (partI a n d) (r * n / d) := by
 obtain ⟨h0, _, _, ⟨l1, l2⟩, u1, u2⟩ := part_facts hn hd h
 generalize partI a n d = p at *
 unfold Hd at *
 have pos : ∀ {m D : Int}, 0 < D → p.lo ≤ fq (a.lo * m) D → p.lo ≤ fq (a.hi * m) D → cq (a.lo * m) D ≤ p.hi → cq (a.hi * m) D ≤ p.hi → (p.lo : Rat) ≤ r * m / D ∧ r * m / D ≤ (p.hi : Rat) := by
  intro m D hD g1 g2 g3 g4
  rw [le_fq hD] at g1 g2
  rw [cq_le hD] at g3 g4
  have g1 := cle.2 g1
  have g2 := cle.2 g2
  have g3 := cle.2 g3
  have g4 := cle.2 g4
  simp only [Rat.intCast_mul] at g1 g2 g3 g4
  have hDr : (0 : Rat) < (D : Rat) := by
   have := (Rat.intCast_lt_intCast (a := 0) (b := D)).2 hD
   simpa using this
  have k1 := lin_geR (c := (m : Rat)) ha.1 ha.2 (K := (p.lo : Rat) * D) (by grind) (by grind)
  have k2 := lin_leR (c := (m : Rat)) ha.1 ha.2 (K := (p.hi : Rat) * D) (by grind) (by grind)
  exact ⟨div_ge hDr (by grind), div_le hDr (by grind)⟩
 rcases Int.lt_or_gt_of_ne h0 with hneg | hpos
 · have e : ∀ z, fq (z * n) d = fq (z * -n) (-d) ∧ cq (z * n) d = cq (z * -n) (-d) := fun z => by rw [(fq_flip hneg).1, (fq_flip hneg).2, Int.mul_neg]; exact ⟨rfl, rfl⟩
   rw [(e _).1] at l1 l2
   rw [(e _).2] at u1 u2
   have := pos (m := -n) (D := -d) (by omega) l1 l2 u1 u2
   have e2 : r * ((-n : Int) : Rat) / ((-d : Int) : Rat) = r * n / d := by
    simp only [Rat.intCast_neg]
    have : (d : Rat) ≠ 0 := by
     intro hz
     apply h0
     have : ((d : Int) : Rat) = ((0 : Int) : Rat) := by simpa using hz
     exact Rat.intCast_inj.1 this
    grind
   rw [e2] at this
   exact this
 · exact pos hpos l1 l2 u1 u2
structure Bd (a : Iv) (M : Int) : Prop where
 f : fine a = true
 l : -M ≤ a.lo
 h : a.hi ≤ M
theorem Bd.mul {a b : Iv} {M K k : Int} (ha : Bd a M) (hb : Bd b K) (h : M * K ≤ k * 1073741824) (hk : k ≤ 1152921504606846976) : Bd (mulI a b) k ∧ MulOf a b (mulI a b) := by
 have ra := fine_iff.1 ha.f
 have rb := fine_iff.1 hb.f
 have hM : 0 ≤ M := by have := ha.l; have := ha.h; omega
 have hK : 0 ≤ K := by have := hb.l; have := hb.h; omega
 have key : ∀ x y : Int, -M ≤ x → x ≤ M → -K ≤ y → y ≤ K → -(M * K) ≤ x * y ∧ x * y ≤ M * K := by
  intro x y x1 x2 y1 y2
  have p1 := Int.mul_nonneg (show 0 ≤ M - x by omega) (show 0 ≤ K - y by omega)
  have p2 := Int.mul_nonneg (show 0 ≤ M + x by omega) (show 0 ≤ K + y by omega)
  have p3 := Int.mul_nonneg (show 0 ≤ M - x by omega) (show 0 ≤ K + y by omega)
  have p4 := Int.mul_nonneg (show 0 ≤ M + x by omega) (show 0 ≤ K - y by omega)
  simp only [Int.sub_mul, Int.mul_sub, Int.add_mul, Int.mul_add] at p1 p2 p3 p4
  omega
 have hl := ha.l
 have hh := ha.h
 have hl2 := hb.l
 have hh2 := hb.h
 have c : ∀ p, Cor a b p → -(k * 1073741824) ≤ p ∧ p ≤ k * 1073741824 := by
  refine cor_all.2 ⟨?_, ?_, ?_, ?_⟩
  · have := key a.lo b.lo (by omega) (by omega) (by omega) (by omega); omega
  · have := key a.lo b.hi (by omega) (by omega) (by omega) (by omega); omega
  · have := key a.hi b.lo (by omega) (by omega) (by omega) (by omega); omega
  · have := key a.hi b.hi (by omega) (by omega) (by omega) (by omega); omega
 have mo := mul_ok ha.f hb.f fun p hp => by have := c p hp; omega
 refine ⟨⟨mo.ok, (mo.lo _).2 fun p hp => ?_, (mo.hi _).2 fun p hp => (c p hp).2⟩, mo⟩
 have := (c p hp).1
 rw [Int.neg_mul]; exact this
theorem part_mk {a : Iv} {n d : Int} (fa : fine a = true) (hn : I64 n) (hd : I64 d) (h0 : d ≠ 0) {l u : Int} (hl : -1152921504606846976 ≤ l) (hu : u ≤ 1152921504606846976) (l1 : l ≤ fq (a.lo * n) d) (l2 : l ≤ fq (a.hi * n) d) (u1 : cq (a.lo * n) d ≤ u) (u2 : cq (a.hi * n) d ≤ u) :
 fine (partI a n d) = true ∧ l ≤ (partI a n d).lo ∧ (partI a n d).hi ≤ u := by
 obtain ⟨a1, a2⟩ := fine64 fa
 have q1 : byOk a.lo n d = true := byOk_iff.2 ⟨h0, by omega, by omega⟩
 have q2 : byOk a.hi n d = true := byOk_iff.2 ⟨h0, by omega, by omega⟩
 obtain ⟨c1, d1⟩ := by_ok a1 hn hd q1
 obtain ⟨c2, d2⟩ := by_ok a2 hn hd q2
 have f1 := fq_le_cq (a.lo * n) d
 have e : partR a n d = ⟨mn (mn (fq (a.lo * n) d) (fq (a.lo * n) d)) (fq (a.hi * n) d), mx (mx (cq (a.lo * n) d) (cq (a.lo * n) d)) (cq (a.hi * n) d), false⟩ := by
  unfold partR wide2
  rw [c1, d1, c2, d2]
 have g1 : l ≤ (partR a n d).lo := by rw [e]; exact mn_ge.2 ⟨mn_ge.2 ⟨l1, l1⟩, l2⟩
 have g2 : (partR a n d).hi ≤ u := by rw [e]; exact mx_le.2 ⟨mx_le.2 ⟨u1, u1⟩, u2⟩
 have g3 : (partR a n d).lo ≤ (partR a n d).hi := by
  have h1 : (partR a n d).lo ≤ fq (a.lo * n) d := by rw [e]; exact (mn_ge.1 (mn_ge.1 (Int.le_refl _)).1).1
  have h2 : cq (a.lo * n) d ≤ (partR a n d).hi := by rw [e]; exact (mx_le.1 (mx_le.1 (Int.le_refl _)).1).1
  omega
 have hf : fine (partR a n d) = true := fine_iff.2 ⟨rfl, by omega, g3, by omega⟩
 have ep : partI a n d = partR a n d := by
  unfold partI
  rw [fine1, fa, q1, q2]
  exact told_ok hf
 rw [ep]
 exact ⟨hf, g1, g2⟩
theorem Bd.part {a : Iv} {M d k : Int} (ha : Bd a M) (hd : I64 d) (h0 : 0 < d) (h : M ≤ k * d) (hk : k ≤ 1152921504606846976) : Bd (partI a (-1) d) k := by
 have ra := fine_iff.1 ha.f
 have hl := ha.l
 have hh := ha.h
 have key : ∀ x : Int, -M ≤ x → x ≤ M → -k ≤ fq (x * -1) d ∧ cq (x * -1) d ≤ k := fun x x1 x2 => by
  rw [le_fq h0, cq_le h0, Int.neg_mul]
  omega
 have k1 := key a.lo (by omega) (by omega)
 have k2 := key a.hi (by omega) (by omega)
 have hk0 : 0 ≤ k := by
  have := fq_le_cq (a.lo * -1) d
  omega
 have := part_mk ha.f (by unfold I64; omega) hd (by omega) (l := -k) (u := k) (by omega) hk k1.1 k2.1 k1.2 k2.2
 exact ⟨this.1, this.2.1, this.2.2⟩
end Go.An
