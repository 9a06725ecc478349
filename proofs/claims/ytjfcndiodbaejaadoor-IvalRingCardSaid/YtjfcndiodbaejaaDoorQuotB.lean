/-
  Contracts of package quot, second part: how many bits a number has. Printed by quotB.py.
-/
import Derived.Test.YtjfcndiodbaejaaDoorQuotA
set_option maxRecDepth 100000
namespace Go.Qt
open Go Go.RowKit Go.Sx Go.Nm Go.Wd Go.Proofs

def len8 : ByteArray := ⟨#[0, 1, 2, 2, 3, 3, 3, 3, 4, 4, 4, 4, 4, 4, 4, 4, 5, 5, 5, 5, 5, 5, 5, 5, 5, 5, 5, 5, 5, 5, 5, 5, 6, 6, 6, 6, 6, 6, 6, 6, 6, 6, 6, 6, 6, 6, 6, 6, 6, 6, 6, 6, 6, 6, 6, 6, 6, 6, 6, 6, 6, 6, 6, 6, 7, 7, 7, 7, 7, 7, 7, 7, 7, 7, 7, 7, 7, 7, 7, 7, 7, 7, 7, 7, 7, 7, 7, 7, 7, 7, 7, 7, 7, 7, 7, 7, 7, 7, 7, 7, 7, 7, 7, 7, 7, 7, 7, 7, 7, 7, 7, 7, 7, 7, 7, 7, 7, 7, 7, 7, 7, 7, 7, 7, 7, 7, 7, 7, 8, 8, 8, 8, 8, 8, 8, 8, 8, 8, 8, 8, 8, 8, 8, 8, 8, 8, 8, 8, 8, 8, 8, 8, 8, 8, 8, 8, 8, 8, 8, 8, 8, 8, 8, 8, 8, 8, 8, 8, 8, 8, 8, 8, 8, 8, 8, 8, 8, 8, 8, 8, 8, 8, 8, 8, 8, 8, 8, 8, 8, 8, 8, 8, 8, 8, 8, 8, 8, 8, 8, 8, 8, 8, 8, 8, 8, 8, 8, 8, 8, 8, 8, 8, 8, 8, 8, 8, 8, 8, 8, 8, 8, 8, 8, 8, 8, 8, 8, 8, 8, 8, 8, 8, 8, 8, 8, 8, 8, 8, 8, 8, 8, 8, 8, 8, 8, 8, 8, 8, 8, 8, 8, 8, 8, 8, 8, 8]⟩
/-- How many bits. -/
def bl (n : Int) : Int := if n = 0 then 0 else (n.toNat.log2 : Int) + 1
set_option maxRecDepth 10000 in
theorem len8_all : ∀ i : Fin 256, strAt len8 (i.val : Int) = bl (i.val : Int) := by decide +kernel
theorem len8_at {i : Int} (h : 0 ≤ i) (h2 : i < 256) : strAt len8 i = bl i := by
  have := len8_all ⟨i.toNat, by omega⟩
  simp only [Int.toNat_of_nonneg h] at this
  exact this
theorem bl_div {x : Int} (k : Nat) (h : 2 ^ k ≤ x) : bl x = k + bl (x / 2 ^ k) := by
  have hp : (0 : Int) < 2 ^ k := Int.pow_pos (by decide)
  have hx : 0 < x := by omega
  obtain ⟨n, rfl⟩ : ∃ n : Nat, x = n := ⟨x.toNat, by omega⟩
  have hq : (n : Int) / 2 ^ k = ((n / 2 ^ k : Nat) : Int) := by simp
  have hn : 2 ^ k ≤ n := by
    have : ((2 ^ k : Nat) : Int) ≤ (n : Int) := by simpa using h
    omega
  have hqp : 0 < n / 2 ^ k := Nat.div_pos hn (Nat.pow_pos (by decide))
  rw [hq]
  unfold bl
  rw [if_neg (by omega), if_neg (by omega)]
  simp only [Int.toNat_natCast]
  have e : n.log2 = k + (n / 2 ^ k).log2 := by
    have hne : n ≠ 0 := by omega
    rw [Nat.log2_eq_iff hne]
    have h1 := Nat.log2_self_le (n := n / 2 ^ k) (by omega)
    have h2 := Nat.lt_log2_self (n := n / 2 ^ k)
    constructor
    · rw [Nat.pow_add, Nat.mul_comm]
      exact (Nat.le_div_iff_mul_le (Nat.pow_pos (by decide))).1 h1
    · rw [Nat.add_assoc, Nat.pow_add, Nat.mul_comm]
      exact (Nat.div_lt_iff_lt_mul (Nat.pow_pos (by decide))).1 h2
  rw [e]
  omega
theorem bl_small {x : Int} (h : 0 ≤ x) (h2 : x < 256) : 0 ≤ bl x ∧ bl x ≤ 8 := by
  have : ∀ i : Fin 256, 0 ≤ bl (i.val : Int) ∧ bl (i.val : Int) ≤ 8 := by decide +kernel
  have := this ⟨x.toNat, by omega⟩
  simpa only [Int.toNat_of_nonneg h] using this

def u64P : List Value → Prop
  | [.int .u64 x] => 0 ≤ x ∧ x < BB
  | _ => False
def len64V : List Value → Value
  | [.int _ x] => .int .i64 (bl x)
  | _ => undef
theorem wrap_u8 {x : Int} (h : 0 ≤ x) (h2 : x < 256) : IntKind.u8.wrap x = x := by
  have : IntKind.u8.wrap x = x % 256 := by simp [IntKind.wrap, IntKind.signed, IntKind.bits]
  rw [this]; omega
theorem fd (x : Int) (k : Nat) : x.fdiv (2 ^ k) = x / 2 ^ k := Int.fdiv_eq_ediv_of_nonneg _ (Int.le_of_lt (Int.pow_pos (by decide)))
/-- The last look, into the table. -/
theorem last {x y : Int} {s : Int} (hy : 0 ≤ y) (hy2 : y < 256) (hs : 0 ≤ s ∧ s ≤ 56) (e : bl x = s + bl y) : Value.int .i64 (IntKind.i64.wrap (s + IntKind.i64.wrap (strAt len8 (IntKind.u8.wrap y)))) = .int .i64 (bl x) := by
  have hb := bl_small hy hy2
  rw [wrap_u8 hy hy2, len8_at hy hy2, wrap_i64_in (n := bl y) (by omega) (by omega), wrap_i64_in (by omega) (by omega), e]
theorem len8_size : (len8.size : Int) = 256 := by kernel_rfl
theorem fits {y : Int} (hy : 0 ≤ y) (hy2 : y < 256) : 0 ≤ IntKind.u8.wrap y ∧ IntKind.u8.wrap y < (len8.size : Int) := by
  rw [wrap_u8 hy hy2]
  rw [len8_size]
  exact ⟨hy, hy2⟩
theorem len64_run0 (x : Int) : runF P Q0 1 138 [.int .u64 x] (.b true :: (.b true :: (.b true :: []))) =
  some (.int .i64 (IntKind.i64.wrap (56 + (IntKind.i64.wrap (strAt len8 (IntKind.u8.wrap (((x.fdiv (2 ^ 32)).fdiv (2 ^ 16)).fdiv (2 ^ 8))))))),
    [(decide (x ≥ 4294967296)) = true, (decide (x.fdiv (2 ^ 32) ≥ 65536)) = true, (decide ((x.fdiv (2 ^ 32)).fdiv (2 ^ 16) ≥ 256)) = true, 0 ≤ IntKind.u8.wrap (((x.fdiv (2 ^ 32)).fdiv (2 ^ 16)).fdiv (2 ^ 8)) ∧ IntKind.u8.wrap (((x.fdiv (2 ^ 32)).fdiv (2 ^ 16)).fdiv (2 ^ 8)) < ↑(len8.size)]) := by kernel_rfl
theorem len64_leaf0 (x : Int) (h0 : 0 ≤ x) (h1 : x < BB) (q0 : (decide (x ≥ 4294967296)) = true) (q1 : (decide (x.fdiv (2 ^ 32) ≥ 65536)) = true) (q2 : (decide ((x.fdiv (2 ^ 32)).fdiv (2 ^ 16) ≥ 256)) = true) : Gives P 138 #[.int .u64 x] (len64V [.int .u64 x]) := by
  have p0 := of_decide_eq_true q0
  have p1 := of_decide_eq_true q1
  have p2 := of_decide_eq_true q2
  have b0 := h0
  try simp only [fd] at *
  have y0 : 0 ≤ (((x) / 2 ^ 32) / 2 ^ 16) / 2 ^ 8 := by simp only [BB] at *; omega
  have y1 : (((x) / 2 ^ 32) / 2 ^ 16) / 2 ^ 8 < 256 := by simp only [BB] at *; omega
  have ye : bl x = 56 + bl ((((x) / 2 ^ 32) / 2 ^ 16) / 2 ^ 8) := by
    have z0 := bl_div (x := x) 32 (by simp only [BB] at *; omega)
    have z1 := bl_div (x := (x) / 2 ^ 32) 16 (by simp only [BB] at *; omega)
    have z2 := bl_div (x := ((x) / 2 ^ 32) / 2 ^ 16) 8 (by simp only [BB] at *; omega)
    omega
  refine gives_of_run mo (len64_run0 x) ?_ ?_
  · try simp only [fd]
    exact ps_cons q0 (ps_cons q1 (ps_cons q2 (ps_cons (fits y0 y1) ps_nil)))
  · simp only [len64V]
    try simp only [fd]
    exact last y0 y1 (by omega) ye
theorem len64_run1 (x : Int) : runF P Q0 1 138 [.int .u64 x] (.b false :: (.b true :: (.b true :: []))) =
  some (.int .i64 (IntKind.i64.wrap (24 + (IntKind.i64.wrap (strAt len8 (IntKind.u8.wrap ((x.fdiv (2 ^ 16)).fdiv (2 ^ 8))))))),
    [(decide (x ≥ 4294967296)) = false, (decide (x ≥ 65536)) = true, (decide (x.fdiv (2 ^ 16) ≥ 256)) = true, 0 ≤ IntKind.u8.wrap ((x.fdiv (2 ^ 16)).fdiv (2 ^ 8)) ∧ IntKind.u8.wrap ((x.fdiv (2 ^ 16)).fdiv (2 ^ 8)) < ↑(len8.size)]) := by kernel_rfl
theorem len64_leaf1 (x : Int) (h0 : 0 ≤ x) (h1 : x < BB) (q0 : (decide (x ≥ 4294967296)) = false) (q1 : (decide (x ≥ 65536)) = true) (q2 : (decide (x.fdiv (2 ^ 16) ≥ 256)) = true) : Gives P 138 #[.int .u64 x] (len64V [.int .u64 x]) := by
  have p0 := of_decide_eq_false q0
  have p1 := of_decide_eq_true q1
  have p2 := of_decide_eq_true q2
  have b0 := h0
  try simp only [fd] at *
  have y0 : 0 ≤ ((x) / 2 ^ 16) / 2 ^ 8 := by simp only [BB] at *; omega
  have y1 : ((x) / 2 ^ 16) / 2 ^ 8 < 256 := by simp only [BB] at *; omega
  have ye : bl x = 24 + bl (((x) / 2 ^ 16) / 2 ^ 8) := by
    have z0 := bl_div (x := x) 16 (by simp only [BB] at *; omega)
    have z1 := bl_div (x := (x) / 2 ^ 16) 8 (by simp only [BB] at *; omega)
    omega
  refine gives_of_run mo (len64_run1 x) ?_ ?_
  · try simp only [fd]
    exact ps_cons q0 (ps_cons q1 (ps_cons q2 (ps_cons (fits y0 y1) ps_nil)))
  · simp only [len64V]
    try simp only [fd]
    exact last y0 y1 (by omega) ye
theorem len64_run2 (x : Int) : runF P Q0 1 138 [.int .u64 x] (.b false :: (.b false :: (.b true :: []))) =
  some (.int .i64 (IntKind.i64.wrap (8 + (IntKind.i64.wrap (strAt len8 (IntKind.u8.wrap (x.fdiv (2 ^ 8))))))),
    [(decide (x ≥ 4294967296)) = false, (decide (x ≥ 65536)) = false, (decide (x ≥ 256)) = true, 0 ≤ IntKind.u8.wrap (x.fdiv (2 ^ 8)) ∧ IntKind.u8.wrap (x.fdiv (2 ^ 8)) < ↑(len8.size)]) := by kernel_rfl
theorem len64_leaf2 (x : Int) (h0 : 0 ≤ x) (h1 : x < BB) (q0 : (decide (x ≥ 4294967296)) = false) (q1 : (decide (x ≥ 65536)) = false) (q2 : (decide (x ≥ 256)) = true) : Gives P 138 #[.int .u64 x] (len64V [.int .u64 x]) := by
  have p0 := of_decide_eq_false q0
  have p1 := of_decide_eq_false q1
  have p2 := of_decide_eq_true q2
  have b0 := h0
  try simp only [fd] at *
  have y0 : 0 ≤ (x) / 2 ^ 8 := by simp only [BB] at *; omega
  have y1 : (x) / 2 ^ 8 < 256 := by simp only [BB] at *; omega
  have ye : bl x = 8 + bl ((x) / 2 ^ 8) := by
    have z0 := bl_div (x := x) 8 (by simp only [BB] at *; omega)
    omega
  refine gives_of_run mo (len64_run2 x) ?_ ?_
  · try simp only [fd]
    exact ps_cons q0 (ps_cons q1 (ps_cons q2 (ps_cons (fits y0 y1) ps_nil)))
  · simp only [len64V]
    try simp only [fd]
    exact last y0 y1 (by omega) ye
theorem len64_run3 (x : Int) : runF P Q0 1 138 [.int .u64 x] (.b false :: (.b false :: (.b false :: []))) =
  some (.int .i64 (IntKind.i64.wrap (0 + (IntKind.i64.wrap (strAt len8 (IntKind.u8.wrap x))))),
    [(decide (x ≥ 4294967296)) = false, (decide (x ≥ 65536)) = false, (decide (x ≥ 256)) = false, 0 ≤ IntKind.u8.wrap x ∧ IntKind.u8.wrap x < ↑(len8.size)]) := by kernel_rfl
theorem len64_leaf3 (x : Int) (h0 : 0 ≤ x) (h1 : x < BB) (q0 : (decide (x ≥ 4294967296)) = false) (q1 : (decide (x ≥ 65536)) = false) (q2 : (decide (x ≥ 256)) = false) : Gives P 138 #[.int .u64 x] (len64V [.int .u64 x]) := by
  have p0 := of_decide_eq_false q0
  have p1 := of_decide_eq_false q1
  have p2 := of_decide_eq_false q2
  have b0 := h0
  try simp only [fd] at *
  have y0 : 0 ≤ x := by simp only [BB] at *; omega
  have y1 : x < 256 := by simp only [BB] at *; omega
  have ye : bl x = 0 + bl (x) := by
    omega
  refine gives_of_run mo (len64_run3 x) ?_ ?_
  · try simp only [fd]
    exact ps_cons q0 (ps_cons q1 (ps_cons q2 (ps_cons (fits y0 y1) ps_nil)))
  · simp only [len64V]
    try simp only [fd]
    exact last y0 y1 (by omega) ye
theorem len64_run4 (x : Int) : runF P Q0 1 138 [.int .u64 x] (.b false :: (.b true :: (.b false :: []))) =
  some (.int .i64 (IntKind.i64.wrap (16 + (IntKind.i64.wrap (strAt len8 (IntKind.u8.wrap (x.fdiv (2 ^ 16))))))),
    [(decide (x ≥ 4294967296)) = false, (decide (x ≥ 65536)) = true, (decide (x.fdiv (2 ^ 16) ≥ 256)) = false, 0 ≤ IntKind.u8.wrap (x.fdiv (2 ^ 16)) ∧ IntKind.u8.wrap (x.fdiv (2 ^ 16)) < ↑(len8.size)]) := by kernel_rfl
theorem len64_leaf4 (x : Int) (h0 : 0 ≤ x) (h1 : x < BB) (q0 : (decide (x ≥ 4294967296)) = false) (q1 : (decide (x ≥ 65536)) = true) (q2 : (decide (x.fdiv (2 ^ 16) ≥ 256)) = false) : Gives P 138 #[.int .u64 x] (len64V [.int .u64 x]) := by
  have p0 := of_decide_eq_false q0
  have p1 := of_decide_eq_true q1
  have p2 := of_decide_eq_false q2
  have b0 := h0
  try simp only [fd] at *
  have y0 : 0 ≤ (x) / 2 ^ 16 := by simp only [BB] at *; omega
  have y1 : (x) / 2 ^ 16 < 256 := by simp only [BB] at *; omega
  have ye : bl x = 16 + bl ((x) / 2 ^ 16) := by
    have z0 := bl_div (x := x) 16 (by simp only [BB] at *; omega)
    omega
  refine gives_of_run mo (len64_run4 x) ?_ ?_
  · try simp only [fd]
    exact ps_cons q0 (ps_cons q1 (ps_cons q2 (ps_cons (fits y0 y1) ps_nil)))
  · simp only [len64V]
    try simp only [fd]
    exact last y0 y1 (by omega) ye
theorem len64_run5 (x : Int) : runF P Q0 1 138 [.int .u64 x] (.b true :: (.b false :: (.b true :: []))) =
  some (.int .i64 (IntKind.i64.wrap (40 + (IntKind.i64.wrap (strAt len8 (IntKind.u8.wrap ((x.fdiv (2 ^ 32)).fdiv (2 ^ 8))))))),
    [(decide (x ≥ 4294967296)) = true, (decide (x.fdiv (2 ^ 32) ≥ 65536)) = false, (decide (x.fdiv (2 ^ 32) ≥ 256)) = true, 0 ≤ IntKind.u8.wrap ((x.fdiv (2 ^ 32)).fdiv (2 ^ 8)) ∧ IntKind.u8.wrap ((x.fdiv (2 ^ 32)).fdiv (2 ^ 8)) < ↑(len8.size)]) := by kernel_rfl
theorem len64_leaf5 (x : Int) (h0 : 0 ≤ x) (h1 : x < BB) (q0 : (decide (x ≥ 4294967296)) = true) (q1 : (decide (x.fdiv (2 ^ 32) ≥ 65536)) = false) (q2 : (decide (x.fdiv (2 ^ 32) ≥ 256)) = true) : Gives P 138 #[.int .u64 x] (len64V [.int .u64 x]) := by
  have p0 := of_decide_eq_true q0
  have p1 := of_decide_eq_false q1
  have p2 := of_decide_eq_true q2
  have b0 := h0
  try simp only [fd] at *
  have y0 : 0 ≤ ((x) / 2 ^ 32) / 2 ^ 8 := by simp only [BB] at *; omega
  have y1 : ((x) / 2 ^ 32) / 2 ^ 8 < 256 := by simp only [BB] at *; omega
  have ye : bl x = 40 + bl (((x) / 2 ^ 32) / 2 ^ 8) := by
    have z0 := bl_div (x := x) 32 (by simp only [BB] at *; omega)
    have z1 := bl_div (x := (x) / 2 ^ 32) 8 (by simp only [BB] at *; omega)
    omega
  refine gives_of_run mo (len64_run5 x) ?_ ?_
  · try simp only [fd]
    exact ps_cons q0 (ps_cons q1 (ps_cons q2 (ps_cons (fits y0 y1) ps_nil)))
  · simp only [len64V]
    try simp only [fd]
    exact last y0 y1 (by omega) ye
theorem len64_run6 (x : Int) : runF P Q0 1 138 [.int .u64 x] (.b true :: (.b false :: (.b false :: []))) =
  some (.int .i64 (IntKind.i64.wrap (32 + (IntKind.i64.wrap (strAt len8 (IntKind.u8.wrap (x.fdiv (2 ^ 32))))))),
    [(decide (x ≥ 4294967296)) = true, (decide (x.fdiv (2 ^ 32) ≥ 65536)) = false, (decide (x.fdiv (2 ^ 32) ≥ 256)) = false, 0 ≤ IntKind.u8.wrap (x.fdiv (2 ^ 32)) ∧ IntKind.u8.wrap (x.fdiv (2 ^ 32)) < ↑(len8.size)]) := by kernel_rfl
theorem len64_leaf6 (x : Int) (h0 : 0 ≤ x) (h1 : x < BB) (q0 : (decide (x ≥ 4294967296)) = true) (q1 : (decide (x.fdiv (2 ^ 32) ≥ 65536)) = false) (q2 : (decide (x.fdiv (2 ^ 32) ≥ 256)) = false) : Gives P 138 #[.int .u64 x] (len64V [.int .u64 x]) := by
  have p0 := of_decide_eq_true q0
  have p1 := of_decide_eq_false q1
  have p2 := of_decide_eq_false q2
  have b0 := h0
  try simp only [fd] at *
  have y0 : 0 ≤ (x) / 2 ^ 32 := by simp only [BB] at *; omega
  have y1 : (x) / 2 ^ 32 < 256 := by simp only [BB] at *; omega
  have ye : bl x = 32 + bl ((x) / 2 ^ 32) := by
    have z0 := bl_div (x := x) 32 (by simp only [BB] at *; omega)
    omega
  refine gives_of_run mo (len64_run6 x) ?_ ?_
  · try simp only [fd]
    exact ps_cons q0 (ps_cons q1 (ps_cons q2 (ps_cons (fits y0 y1) ps_nil)))
  · simp only [len64V]
    try simp only [fd]
    exact last y0 y1 (by omega) ye
theorem len64_run7 (x : Int) : runF P Q0 1 138 [.int .u64 x] (.b true :: (.b true :: (.b false :: []))) =
  some (.int .i64 (IntKind.i64.wrap (48 + (IntKind.i64.wrap (strAt len8 (IntKind.u8.wrap ((x.fdiv (2 ^ 32)).fdiv (2 ^ 16))))))),
    [(decide (x ≥ 4294967296)) = true, (decide (x.fdiv (2 ^ 32) ≥ 65536)) = true, (decide ((x.fdiv (2 ^ 32)).fdiv (2 ^ 16) ≥ 256)) = false, 0 ≤ IntKind.u8.wrap ((x.fdiv (2 ^ 32)).fdiv (2 ^ 16)) ∧ IntKind.u8.wrap ((x.fdiv (2 ^ 32)).fdiv (2 ^ 16)) < ↑(len8.size)]) := by kernel_rfl
theorem len64_leaf7 (x : Int) (h0 : 0 ≤ x) (h1 : x < BB) (q0 : (decide (x ≥ 4294967296)) = true) (q1 : (decide (x.fdiv (2 ^ 32) ≥ 65536)) = true) (q2 : (decide ((x.fdiv (2 ^ 32)).fdiv (2 ^ 16) ≥ 256)) = false) : Gives P 138 #[.int .u64 x] (len64V [.int .u64 x]) := by
  have p0 := of_decide_eq_true q0
  have p1 := of_decide_eq_true q1
  have p2 := of_decide_eq_false q2
  have b0 := h0
  try simp only [fd] at *
  have y0 : 0 ≤ ((x) / 2 ^ 32) / 2 ^ 16 := by simp only [BB] at *; omega
  have y1 : ((x) / 2 ^ 32) / 2 ^ 16 < 256 := by simp only [BB] at *; omega
  have ye : bl x = 48 + bl (((x) / 2 ^ 32) / 2 ^ 16) := by
    have z0 := bl_div (x := x) 32 (by simp only [BB] at *; omega)
    have z1 := bl_div (x := (x) / 2 ^ 32) 16 (by simp only [BB] at *; omega)
    omega
  refine gives_of_run mo (len64_run7 x) ?_ ?_
  · try simp only [fd]
    exact ps_cons q0 (ps_cons q1 (ps_cons q2 (ps_cons (fits y0 y1) ps_nil)))
  · simp only [len64V]
    try simp only [fd]
    exact last y0 y1 (by omega) ye
theorem len64_gives (args : List Value) (h : u64P args) : Gives P 138 args.toArray (len64V args) := by
  unfold u64P at h
  split at h
  · rename_i x
    cases q0 : (decide (x ≥ 4294967296)) with
    | true =>
      cases q1 : (decide (x.fdiv (2 ^ 32) ≥ 65536)) with
      | true =>
        cases q2 : (decide ((x.fdiv (2 ^ 32)).fdiv (2 ^ 16) ≥ 256)) with
        | true =>
          exact len64_leaf0 x h.1 h.2 q0 q1 q2
        | false =>
          exact len64_leaf7 x h.1 h.2 q0 q1 q2
      | false =>
        cases q2 : (decide (x.fdiv (2 ^ 32) ≥ 256)) with
        | true =>
          exact len64_leaf5 x h.1 h.2 q0 q1 q2
        | false =>
          exact len64_leaf6 x h.1 h.2 q0 q1 q2
    | false =>
      cases q1 : (decide (x ≥ 65536)) with
      | true =>
        cases q2 : (decide (x.fdiv (2 ^ 16) ≥ 256)) with
        | true =>
          exact len64_leaf1 x h.1 h.2 q0 q1 q2
        | false =>
          exact len64_leaf4 x h.1 h.2 q0 q1 q2
      | false =>
        cases q2 : (decide (x ≥ 256)) with
        | true =>
          exact len64_leaf2 x h.1 h.2 q0 q1 q2
        | false =>
          exact len64_leaf3 x h.1 h.2 q0 q1 q2
  · exact h.elim
noncomputable def len64 : Ctr P := ⟨138, u64P, len64V, len64_gives⟩
end Go.Qt
