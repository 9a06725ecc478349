/-
  Contracts of package quot, first part: must, sure, told.
-/
import Derived.Test.YtdnpnccieabmiaaDoorRfb
import Derived.Test.YtdnpnccieabmiaaDoorSxc
set_option maxRecDepth 100000
namespace Go.Qt
open Go Go.RowKit Go.Sx Go.Nm Go.Wd Go.Proofs
noncomputable def Q0 : Env P := ⟨⟨[], []⟩, [], 10, []⟩
def mustP : List Value → Prop
  | [.bool b, .int .i64 _] => b = true
  | _ => False
theorem must_run (e : Int) : runF P Q0 1 70 [.bool true, .int .i64 e] [] = some (.tuple #[], []) := by kernel_rfl
theorem must_gives (args : List Value) (h : mustP args) : Gives P 70 args.toArray (.tuple #[]) := by
  unfold mustP at h
  split at h
  · subst h
    exact gives_of_run mo (must_run _) ps_nil rfl
  · exact h.elim
noncomputable def must : Ctr P := ⟨70, mustP, fun _ => .tuple #[], must_gives⟩
def sureP : List Value → Prop
  | [x, .bool b] => IsW x ∧ b = false
  | _ => False
def sureV : List Value → Value
  | [x, _] => x
  | _ => undef
theorem sure_run (a : Int) : runF P ⟨[must], [], 10, []⟩ 1 48 [W a, .bool false] [] = some (W a, [true = true]) := by kernel_rfl
theorem sure_gives (args : List Value) (h : sureP args) : Gives P 48 args.toArray (sureV args) := by
  unfold sureP at h
  split at h
  · obtain ⟨⟨n, rfl⟩, rfl⟩ := h
    exact gives_of_run mo (sure_run n) (ps_cons rfl ps_nil) rfl
  · exact h.elim
noncomputable def sure : Ctr P := ⟨48, sureP, sureV, sure_gives⟩
noncomputable def tf : Func := Tryd.f69
def opsOf : Code → Array Oper
  | .seq (.region _ ops _) _ => ops
  | _ => #[]
def restOf : Code → Code
  | .seq _ y => y
  | c => c
def codeOf (f : Func) : Code := f.body.getD .skip
noncomputable def tOps : Array Oper := opsOf (codeOf tf)
noncomputable def tRest : Code := restOf (codeOf tf)
noncomputable def toldD : DefC P :=
  recC mo Q0 (by rfl) 1 69 0 5 tf tOps tRest (tOps[0]?.getD default) (by kernel_rfl) (by kernel_rfl) (by kernel_rfl) (of_decide_eq_true (by kernel_rfl)) (by kernel_rfl) (by kernel_rfl) (by kernel_rfl) (of_decide_eq_true (by kernel_rfl)) (by kernel_rfl)
end Go.Qt
/-
  Contracts of package quot, second part: how many bits a number has. Printed by quotB.py.
-/
namespace Go.Qt
open Go Go.RowKit Go.Sx Go.Nm Go.Wd Go.Proofs
def len8 : ByteArray := ⟨#[0, 1, 2, 2, 3, 3, 3, 3, 4, 4, 4, 4, 4, 4, 4, 4, 5, 5, 5, 5, 5, 5, 5, 5, 5, 5, 5, 5, 5, 5, 5, 5, 6, 6, 6, 6, 6, 6, 6, 6, 6, 6, 6, 6, 6, 6, 6, 6, 6, 6, 6, 6, 6, 6, 6, 6, 6, 6, 6, 6, 6, 6, 6, 6, 7, 7, 7, 7, 7, 7, 7, 7, 7, 7, 7, 7, 7, 7, 7, 7, 7, 7, 7, 7, 7, 7, 7, 7, 7, 7, 7, 7, 7, 7, 7, 7, 7, 7, 7, 7, 7, 7, 7, 7, 7, 7, 7, 7, 7, 7, 7, 7, 7, 7, 7, 7, 7, 7, 7, 7, 7, 7, 7, 7, 7, 7, 7, 7, 8, 8, 8, 8, 8, 8, 8, 8, 8, 8, 8, 8, 8, 8, 8, 8, 8, 8, 8, 8, 8, 8, 8, 8, 8, 8, 8, 8, 8, 8, 8, 8, 8, 8, 8, 8, 8, 8, 8, 8, 8, 8, 8, 8, 8, 8, 8, 8, 8, 8, 8, 8, 8, 8, 8, 8, 8, 8, 8, 8, 8, 8, 8, 8, 8, 8, 8, 8, 8, 8, 8, 8, 8, 8, 8, 8, 8, 8, 8, 8, 8, 8, 8, 8, 8, 8, 8, 8, 8, 8, 8, 8, 8, 8, 8, 8, 8, 8, 8, 8, 8, 8, 8, 8, 8, 8, 8, 8, 8, 8, 8, 8, 8, 8, 8, 8, 8, 8, 8, 8, 8, 8, 8, 8, 8, 8, 8, 8]⟩
def bl (n : Int) : Int := if n = 0 then 0 else (n.toNat.log2 : Int) + 1
set_option maxRecDepth 10000 in
theorem len8_all : ∀ i : Fin 256, strAt len8 (i.val : Int) = bl (i.val : Int) := by decide +kernel
theorem len8_at {i : Int} (h : 0 ≤ i) (h2 : i < 256) : strAt len8 i = bl i := by
  have := len8_all ⟨i.toNat, by omega⟩
  simp only [Int.toNat_of_nonneg h] at this
  exact this
theorem bl_div {x : Int} (k : Nat) (h : 2 ^ k ≤ x) : bl x = k + bl (x / 2 ^ k) := by
  have hp : (0 : Int) < 2 ^ k := Int.pow_pos (by decide)
  have hx : 0 < x := by omega
  obtain ⟨n, rfl⟩ : ∃ n : Nat, x = n := ⟨x.toNat, by omega⟩
  have hq : (n : Int) / 2 ^ k = ((n / 2 ^ k : Nat) : Int) := by simp
  have hn : 2 ^ k ≤ n := by
    have : ((2 ^ k : Nat) : Int) ≤ (n : Int) := by simpa using h
    omega
  have hqp : 0 < n / 2 ^ k := Nat.div_pos hn (Nat.pow_pos (by decide))
  rw [hq]
  unfold bl
  rw [if_neg (by omega), if_neg (by omega)]
  simp only [Int.toNat_natCast]
  have e : n.log2 = k + (n / 2 ^ k).log2 := by
    have hne : n ≠ 0 := by omega
    rw [Nat.log2_eq_iff hne]
    have h1 := Nat.log2_self_le (n := n / 2 ^ k) (by omega)
    have h2 := Nat.lt_log2_self (n := n / 2 ^ k)
    constructor
    · rw [Nat.pow_add, Nat.mul_comm]
      exact (Nat.le_div_iff_mul_le (Nat.pow_pos (by decide))).1 h1
    · rw [Nat.add_assoc, Nat.pow_add, Nat.mul_comm]
      exact (Nat.div_lt_iff_lt_mul (Nat.pow_pos (by decide))).1 h2
  rw [e]
  omega
theorem bl_small {x : Int} (h : 0 ≤ x) (h2 : x < 256) : 0 ≤ bl x ∧ bl x ≤ 8 := by
  have : ∀ i : Fin 256, 0 ≤ bl (i.val : Int) ∧ bl (i.val : Int) ≤ 8 := by decide +kernel
  have := this ⟨x.toNat, by omega⟩
  simpa only [Int.toNat_of_nonneg h] using this
def u64P : List Value → Prop
  | [.int .u64 x] => 0 ≤ x ∧ x < BB
  | _ => False
def len64V : List Value → Value
  | [.int _ x] => .int .i64 (bl x)
  | _ => undef
theorem wrap_u8 {x : Int} (h : 0 ≤ x) (h2 : x < 256) : IntKind.u8.wrap x = x := by
  have : IntKind.u8.wrap x = x % 256 := by simp [IntKind.wrap, IntKind.signed, IntKind.bits]
  rw [this]; omega
theorem fd (x : Int) (k : Nat) : x.fdiv (2 ^ k) = x / 2 ^ k := Int.fdiv_eq_ediv_of_nonneg _ (Int.le_of_lt (Int.pow_pos (by decide)))
theorem last {x y : Int} {s : Int} (hy : 0 ≤ y) (hy2 : y < 256) (hs : 0 ≤ s ∧ s ≤ 56) (e : bl x = s + bl y) : Value.int .i64 (IntKind.i64.wrap (s + IntKind.i64.wrap (strAt len8 (IntKind.u8.wrap y)))) = .int .i64 (bl x) := by
  have hb := bl_small hy hy2
  rw [wrap_u8 hy hy2, len8_at hy hy2, wrap_i64_in (n := bl y) (by omega) (by omega), wrap_i64_in (by omega) (by omega), e]
theorem len8_size : (len8.size : Int) = 256 := by kernel_rfl
theorem fits {y : Int} (hy : 0 ≤ y) (hy2 : y < 256) : 0 ≤ IntKind.u8.wrap y ∧ IntKind.u8.wrap y < (len8.size : Int) := by
  rw [wrap_u8 hy hy2]
  rw [len8_size]
  exact ⟨hy, hy2⟩
theorem len64_run0 (x : Int) : runF P Q0 1 93 [.int .u64 x] (.b true :: (.b true :: (.b true :: []))) =
  some (.int .i64 (IntKind.i64.wrap (56 + (IntKind.i64.wrap (strAt len8 (IntKind.u8.wrap (((x.fdiv (2 ^ 32)).fdiv (2 ^ 16)).fdiv (2 ^ 8))))))), [(decide (x ≥ 4294967296)) = true, (decide (x.fdiv (2 ^ 32) ≥ 65536)) = true, (decide ((x.fdiv (2 ^ 32)).fdiv (2 ^ 16) ≥ 256)) = true, 0 ≤ IntKind.u8.wrap (((x.fdiv (2 ^ 32)).fdiv (2 ^ 16)).fdiv (2 ^ 8)) ∧ IntKind.u8.wrap (((x.fdiv (2 ^ 32)).fdiv (2 ^ 16)).fdiv (2 ^ 8)) < ↑(len8.size)]) := by kernel_rfl
theorem len64_leaf0 (x : Int) (h0 : 0 ≤ x) (h1 : x < BB) (q0 : (decide (x ≥ 4294967296)) = true) (q1 : (decide (x.fdiv (2 ^ 32) ≥ 65536)) = true) (q2 : (decide ((x.fdiv (2 ^ 32)).fdiv (2 ^ 16) ≥ 256)) = true) : Gives P 93 #[.int .u64 x] (len64V [.int .u64 x]) := by
  have p0 := of_decide_eq_true q0
  have p1 := of_decide_eq_true q1
  have p2 := of_decide_eq_true q2
  have b0 := h0
  try simp only [fd] at *
  have y0 : 0 ≤ (((x) / 2 ^ 32) / 2 ^ 16) / 2 ^ 8 := by simp only [BB] at *; omega
  have y1 : (((x) / 2 ^ 32) / 2 ^ 16) / 2 ^ 8 < 256 := by simp only [BB] at *; omega
  have ye : bl x = 56 + bl ((((x) / 2 ^ 32) / 2 ^ 16) / 2 ^ 8) := by
    have z0 := bl_div (x := x) 32 (by simp only [BB] at *; omega)
    have z1 := bl_div (x := (x) / 2 ^ 32) 16 (by simp only [BB] at *; omega)
    have z2 := bl_div (x := ((x) / 2 ^ 32) / 2 ^ 16) 8 (by simp only [BB] at *; omega)
    omega
  refine gives_of_run mo (len64_run0 x) ?_ ?_
  · try simp only [fd]
    exact ps_cons q0 (ps_cons q1 (ps_cons q2 (ps_cons (fits y0 y1) ps_nil)))
  · simp only [len64V]
    try simp only [fd]
    exact last y0 y1 (by omega) ye
theorem len64_run1 (x : Int) : runF P Q0 1 93 [.int .u64 x] (.b false :: (.b true :: (.b true :: []))) =
  some (.int .i64 (IntKind.i64.wrap (24 + (IntKind.i64.wrap (strAt len8 (IntKind.u8.wrap ((x.fdiv (2 ^ 16)).fdiv (2 ^ 8))))))), [(decide (x ≥ 4294967296)) = false, (decide (x ≥ 65536)) = true, (decide (x.fdiv (2 ^ 16) ≥ 256)) = true, 0 ≤ IntKind.u8.wrap ((x.fdiv (2 ^ 16)).fdiv (2 ^ 8)) ∧ IntKind.u8.wrap ((x.fdiv (2 ^ 16)).fdiv (2 ^ 8)) < ↑(len8.size)]) := by kernel_rfl
theorem len64_leaf1 (x : Int) (h0 : 0 ≤ x) (h1 : x < BB) (q0 : (decide (x ≥ 4294967296)) = false) (q1 : (decide (x ≥ 65536)) = true) (q2 : (decide (x.fdiv (2 ^ 16) ≥ 256)) = true) : Gives P 93 #[.int .u64 x] (len64V [.int .u64 x]) := by
  have p0 := of_decide_eq_false q0
  have p1 := of_decide_eq_true q1
  have p2 := of_decide_eq_true q2
  have b0 := h0
  try simp only [fd] at *
  have y0 : 0 ≤ ((x) / 2 ^ 16) / 2 ^ 8 := by simp only [BB] at *; omega
  have y1 : ((x) / 2 ^ 16) / 2 ^ 8 < 256 := by simp only [BB] at *; omega
  have ye : bl x = 24 + bl (((x) / 2 ^ 16) / 2 ^ 8) := by
    have z0 := bl_div (x := x) 16 (by simp only [BB] at *; omega)
    have z1 := bl_div (x := (x) / 2 ^ 16) 8 (by simp only [BB] at *; omega)
    omega
  refine gives_of_run mo (len64_run1 x) ?_ ?_
  · try simp only [fd]
    exact ps_cons q0 (ps_cons q1 (ps_cons q2 (ps_cons (fits y0 y1) ps_nil)))
  · simp only [len64V]
    try simp only [fd]
    exact last y0 y1 (by omega) ye
theorem len64_run2 (x : Int) : runF P Q0 1 93 [.int .u64 x] (.b false :: (.b false :: (.b true :: []))) =
  some (.int .i64 (IntKind.i64.wrap (8 + (IntKind.i64.wrap (strAt len8 (IntKind.u8.wrap (x.fdiv (2 ^ 8))))))), [(decide (x ≥ 4294967296)) = false, (decide (x ≥ 65536)) = false, (decide (x ≥ 256)) = true, 0 ≤ IntKind.u8.wrap (x.fdiv (2 ^ 8)) ∧ IntKind.u8.wrap (x.fdiv (2 ^ 8)) < ↑(len8.size)]) := by kernel_rfl
theorem len64_leaf2 (x : Int) (h0 : 0 ≤ x) (h1 : x < BB) (q0 : (decide (x ≥ 4294967296)) = false) (q1 : (decide (x ≥ 65536)) = false) (q2 : (decide (x ≥ 256)) = true) : Gives P 93 #[.int .u64 x] (len64V [.int .u64 x]) := by
  have p0 := of_decide_eq_false q0
  have p1 := of_decide_eq_false q1
  have p2 := of_decide_eq_true q2
  have b0 := h0
  try simp only [fd] at *
  have y0 : 0 ≤ (x) / 2 ^ 8 := by simp only [BB] at *; omega
  have y1 : (x) / 2 ^ 8 < 256 := by simp only [BB] at *; omega
  have ye : bl x = 8 + bl ((x) / 2 ^ 8) := by
    have z0 := bl_div (x := x) 8 (by simp only [BB] at *; omega)
    omega
  refine gives_of_run mo (len64_run2 x) ?_ ?_
  · try simp only [fd]
    exact ps_cons q0 (ps_cons q1 (ps_cons q2 (ps_cons (fits y0 y1) ps_nil)))
  · simp only [len64V]
    try simp only [fd]
    exact last y0 y1 (by omega) ye
theorem len64_run3 (x : Int) : runF P Q0 1 93 [.int .u64 x] (.b false :: (.b false :: (.b false :: []))) =
  some (.int .i64 (IntKind.i64.wrap (0 + (IntKind.i64.wrap (strAt len8 (IntKind.u8.wrap x))))), [(decide (x ≥ 4294967296)) = false, (decide (x ≥ 65536)) = false, (decide (x ≥ 256)) = false, 0 ≤ IntKind.u8.wrap x ∧ IntKind.u8.wrap x < ↑(len8.size)]) := by kernel_rfl
theorem len64_leaf3 (x : Int) (h0 : 0 ≤ x) (h1 : x < BB) (q0 : (decide (x ≥ 4294967296)) = false) (q1 : (decide (x ≥ 65536)) = false) (q2 : (decide (x ≥ 256)) = false) : Gives P 93 #[.int .u64 x] (len64V [.int .u64 x]) := by
  have p0 := of_decide_eq_false q0
  have p1 := of_decide_eq_false q1
  have p2 := of_decide_eq_false q2
  have b0 := h0
  try simp only [fd] at *
  have y0 : 0 ≤ x := by simp only [BB] at *; omega
  have y1 : x < 256 := by simp only [BB] at *; omega
  have ye : bl x = 0 + bl (x) := by
    omega
  refine gives_of_run mo (len64_run3 x) ?_ ?_
  · try simp only [fd]
    exact ps_cons q0 (ps_cons q1 (ps_cons q2 (ps_cons (fits y0 y1) ps_nil)))
  · simp only [len64V]
    try simp only [fd]
    exact last y0 y1 (by omega) ye
theorem len64_run4 (x : Int) : runF P Q0 1 93 [.int .u64 x] (.b false :: (.b true :: (.b false :: []))) =
  some (.int .i64 (IntKind.i64.wrap (16 + (IntKind.i64.wrap (strAt len8 (IntKind.u8.wrap (x.fdiv (2 ^ 16))))))), [(decide (x ≥ 4294967296)) = false, (decide (x ≥ 65536)) = true, (decide (x.fdiv (2 ^ 16) ≥ 256)) = false, 0 ≤ IntKind.u8.wrap (x.fdiv (2 ^ 16)) ∧ IntKind.u8.wrap (x.fdiv (2 ^ 16)) < ↑(len8.size)]) := by kernel_rfl
theorem len64_leaf4 (x : Int) (h0 : 0 ≤ x) (h1 : x < BB) (q0 : (decide (x ≥ 4294967296)) = false) (q1 : (decide (x ≥ 65536)) = true) (q2 : (decide (x.fdiv (2 ^ 16) ≥ 256)) = false) : Gives P 93 #[.int .u64 x] (len64V [.int .u64 x]) := by
  have p0 := of_decide_eq_false q0
  have p1 := of_decide_eq_true q1
  have p2 := of_decide_eq_false q2
  have b0 := h0
  try simp only [fd] at *
  have y0 : 0 ≤ (x) / 2 ^ 16 := by simp only [BB] at *; omega
  have y1 : (x) / 2 ^ 16 < 256 := by simp only [BB] at *; omega
  have ye : bl x = 16 + bl ((x) / 2 ^ 16) := by
    have z0 := bl_div (x := x) 16 (by simp only [BB] at *; omega)
    omega
  refine gives_of_run mo (len64_run4 x) ?_ ?_
  · try simp only [fd]
    exact ps_cons q0 (ps_cons q1 (ps_cons q2 (ps_cons (fits y0 y1) ps_nil)))
  · simp only [len64V]
    try simp only [fd]
    exact last y0 y1 (by omega) ye
theorem len64_run5 (x : Int) : runF P Q0 1 93 [.int .u64 x] (.b true :: (.b false :: (.b true :: []))) =
  some (.int .i64 (IntKind.i64.wrap (40 + (IntKind.i64.wrap (strAt len8 (IntKind.u8.wrap ((x.fdiv (2 ^ 32)).fdiv (2 ^ 8))))))), [(decide (x ≥ 4294967296)) = true, (decide (x.fdiv (2 ^ 32) ≥ 65536)) = false, (decide (x.fdiv (2 ^ 32) ≥ 256)) = true, 0 ≤ IntKind.u8.wrap ((x.fdiv (2 ^ 32)).fdiv (2 ^ 8)) ∧ IntKind.u8.wrap ((x.fdiv (2 ^ 32)).fdiv (2 ^ 8)) < ↑(len8.size)]) := by kernel_rfl
theorem len64_leaf5 (x : Int) (h0 : 0 ≤ x) (h1 : x < BB) (q0 : (decide (x ≥ 4294967296)) = true) (q1 : (decide (x.fdiv (2 ^ 32) ≥ 65536)) = false) (q2 : (decide (x.fdiv (2 ^ 32) ≥ 256)) = true) : Gives P 93 #[.int .u64 x] (len64V [.int .u64 x]) := by
  have p0 := of_decide_eq_true q0
  have p1 := of_decide_eq_false q1
  have p2 := of_decide_eq_true q2
  have b0 := h0
  try simp only [fd] at *
  have y0 : 0 ≤ ((x) / 2 ^ 32) / 2 ^ 8 := by simp only [BB] at *; omega
  have y1 : ((x) / 2 ^ 32) / 2 ^ 8 < 256 := by simp only [BB] at *; omega
  have ye : bl x = 40 + bl (((x) / 2 ^ 32) / 2 ^ 8) := by
    have z0 := bl_div (x := x) 32 (by simp only [BB] at *; omega)
    have z1 := bl_div (x := (x) / 2 ^ 32) 8 (by simp only [BB] at *; omega)
    omega
  refine gives_of_run mo (len64_run5 x) ?_ ?_
  · try simp only [fd]
    exact ps_cons q0 (ps_cons q1 (ps_cons q2 (ps_cons (fits y0 y1) ps_nil)))
  · simp only [len64V]
    try simp only [fd]
    exact last y0 y1 (by omega) ye
theorem len64_run6 (x : Int) : runF P Q0 1 93 [.int .u64 x] (.b true :: (.b false :: (.b false :: []))) =
  some (.int .i64 (IntKind.i64.wrap (32 + (IntKind.i64.wrap (strAt len8 (IntKind.u8.wrap (x.fdiv (2 ^ 32))))))), [(decide (x ≥ 4294967296)) = true, (decide (x.fdiv (2 ^ 32) ≥ 65536)) = false, (decide (x.fdiv (2 ^ 32) ≥ 256)) = false, 0 ≤ IntKind.u8.wrap (x.fdiv (2 ^ 32)) ∧ IntKind.u8.wrap (x.fdiv (2 ^ 32)) < ↑(len8.size)]) := by kernel_rfl
theorem len64_leaf6 (x : Int) (h0 : 0 ≤ x) (h1 : x < BB) (q0 : (decide (x ≥ 4294967296)) = true) (q1 : (decide (x.fdiv (2 ^ 32) ≥ 65536)) = false) (q2 : (decide (x.fdiv (2 ^ 32) ≥ 256)) = false) : Gives P 93 #[.int .u64 x] (len64V [.int .u64 x]) := by
  have p0 := of_decide_eq_true q0
  have p1 := of_decide_eq_false q1
  have p2 := of_decide_eq_false q2
  have b0 := h0
  try simp only [fd] at *
  have y0 : 0 ≤ (x) / 2 ^ 32 := by simp only [BB] at *; omega
  have y1 : (x) / 2 ^ 32 < 256 := by simp only [BB] at *; omega
  have ye : bl x = 32 + bl ((x) / 2 ^ 32) := by
    have z0 := bl_div (x := x) 32 (by simp only [BB] at *; omega)
    omega
  refine gives_of_run mo (len64_run6 x) ?_ ?_
  · try simp only [fd]
    exact ps_cons q0 (ps_cons q1 (ps_cons q2 (ps_cons (fits y0 y1) ps_nil)))
  · simp only [len64V]
    try simp only [fd]
    exact last y0 y1 (by omega) ye
theorem len64_run7 (x : Int) : runF P Q0 1 93 [.int .u64 x] (.b true :: (.b true :: (.b false :: []))) =
  some (.int .i64 (IntKind.i64.wrap (48 + (IntKind.i64.wrap (strAt len8 (IntKind.u8.wrap ((x.fdiv (2 ^ 32)).fdiv (2 ^ 16))))))), [(decide (x ≥ 4294967296)) = true, (decide (x.fdiv (2 ^ 32) ≥ 65536)) = true, (decide ((x.fdiv (2 ^ 32)).fdiv (2 ^ 16) ≥ 256)) = false, 0 ≤ IntKind.u8.wrap ((x.fdiv (2 ^ 32)).fdiv (2 ^ 16)) ∧ IntKind.u8.wrap ((x.fdiv (2 ^ 32)).fdiv (2 ^ 16)) < ↑(len8.size)]) := by kernel_rfl
theorem len64_leaf7 (x : Int) (h0 : 0 ≤ x) (h1 : x < BB) (q0 : (decide (x ≥ 4294967296)) = true) (q1 : (decide (x.fdiv (2 ^ 32) ≥ 65536)) = true) (q2 : (decide ((x.fdiv (2 ^ 32)).fdiv (2 ^ 16) ≥ 256)) = false) : Gives P 93 #[.int .u64 x] (len64V [.int .u64 x]) := by
  have p0 := of_decide_eq_true q0
  have p1 := of_decide_eq_true q1
  have p2 := of_decide_eq_false q2
  have b0 := h0
  try simp only [fd] at *
  have y0 : 0 ≤ ((x) / 2 ^ 32) / 2 ^ 16 := by simp only [BB] at *; omega
  have y1 : ((x) / 2 ^ 32) / 2 ^ 16 < 256 := by simp only [BB] at *; omega
  have ye : bl x = 48 + bl (((x) / 2 ^ 32) / 2 ^ 16) := by
    have z0 := bl_div (x := x) 32 (by simp only [BB] at *; omega)
    have z1 := bl_div (x := (x) / 2 ^ 32) 16 (by simp only [BB] at *; omega)
    omega
  refine gives_of_run mo (len64_run7 x) ?_ ?_
  · try simp only [fd]
    exact ps_cons q0 (ps_cons q1 (ps_cons q2 (ps_cons (fits y0 y1) ps_nil)))
  · simp only [len64V]
    try simp only [fd]
    exact last y0 y1 (by omega) ye
theorem len64_gives (args : List Value) (h : u64P args) : Gives P 93 args.toArray (len64V args) := by
  unfold u64P at h
  split at h
  · rename_i x
    cases q0 : (decide (x ≥ 4294967296)) with
    | true =>
      cases q1 : (decide (x.fdiv (2 ^ 32) ≥ 65536)) with
      | true =>
        cases q2 : (decide ((x.fdiv (2 ^ 32)).fdiv (2 ^ 16) ≥ 256)) with
        | true =>
          exact len64_leaf0 x h.1 h.2 q0 q1 q2
        | false =>
          exact len64_leaf7 x h.1 h.2 q0 q1 q2
      | false =>
        cases q2 : (decide (x.fdiv (2 ^ 32) ≥ 256)) with
        | true =>
          exact len64_leaf5 x h.1 h.2 q0 q1 q2
        | false =>
          exact len64_leaf6 x h.1 h.2 q0 q1 q2
    | false =>
      cases q1 : (decide (x ≥ 65536)) with
      | true =>
        cases q2 : (decide (x.fdiv (2 ^ 16) ≥ 256)) with
        | true =>
          exact len64_leaf1 x h.1 h.2 q0 q1 q2
        | false =>
          exact len64_leaf4 x h.1 h.2 q0 q1 q2
      | false =>
        cases q2 : (decide (x ≥ 256)) with
        | true =>
          exact len64_leaf2 x h.1 h.2 q0 q1 q2
        | false =>
          exact len64_leaf3 x h.1 h.2 q0 q1 q2
  · exact h.elim
noncomputable def len64 : Ctr P := ⟨93, u64P, len64V, len64_gives⟩
end Go.Qt
/-
  Contracts of package quot, third part: size, shift. Printed by quotC.py.
-/
namespace Go.Qt
open Go Go.RowKit Go.Sx Go.Nm Go.Wd Go.Proofs
noncomputable def Q1 : Env P := ⟨[len64], [], 10, []⟩
def sizeV : List Value → Value
  | [x] => .int .i64 (bl (tI x % MM))
  | _ => undef
theorem u64P_w {n : Int} (h : 0 ≤ n ∧ n < BB) : u64P [.int .u64 n] := h
theorem bl_nonneg (x : Int) : 0 ≤ bl x := by unfold bl; split <;> omega
theorem bl_le {x : Int} (k : Nat) (h : 0 ≤ x) (h2 : x < 2 ^ k) : bl x ≤ k := by
  unfold bl
  by_cases e : x = 0
  · rw [if_pos e]; omega
  · rw [if_neg e]
    obtain ⟨n, rfl⟩ : ∃ n : Nat, x = n := ⟨x.toNat, by omega⟩
    simp only [Int.toNat_natCast]
    have hn : n < 2 ^ k := by
      have : (n : Int) < ((2 ^ k : Nat) : Int) := by simpa using h2
      omega
    have := (Nat.log2_lt (n := n) (k := k) (by omega)).2 hn
    omega
theorem bl64 {x : Int} (h : 0 ≤ x ∧ x < BB) : 0 ≤ bl x ∧ bl x ≤ 64 := by
  have e : (2 : Int) ^ 64 = BB := by decide
  exact ⟨bl_nonneg x, bl_le 64 h.1 (by rw [e]; exact h.2)⟩
theorem sum_w {a : Int} : tI (W a) % MM = w0 a + BB * w1 a + B2 * w2 a + B3 * w3 a := by rw [tI_W, bm_mod, words_sum]
theorem size3 {a : Int} (h : (w3 a != 0) = true) : Value.int .i64 (IntKind.i64.wrap (192 + bl (w3 a))) = .int .i64 (bl (tI (W a) % MM)) := by
  have r0 := w0_range a
  have r1 := w1_range a
  have r2 := w2_range a
  have r3 := w3_range a
  have hb := bl64 r3
  rw [bne_iff_ne] at h
  have e : (2 : Int) ^ 192 = B3 := by decide
  have k := bl_div (x := tI (W a) % MM) 192 (by rw [e, sum_w]; simp only [BB, B2, B3] at *; omega)
  have d : (tI (W a) % MM) / 2 ^ 192 = w3 a := by rw [e, sum_w]; simp only [BB, B2, B3] at *; omega
  rw [wrap_i64_in (by omega) (by omega), k, d]
  rfl
theorem size2 {a : Int} (h3 : (w3 a != 0) = false) (h : (w2 a != 0) = true) : Value.int .i64 (IntKind.i64.wrap (128 + bl (w2 a))) = .int .i64 (bl (tI (W a) % MM)) := by
  have r0 := w0_range a
  have r1 := w1_range a
  have r2 := w2_range a
  have hb := bl64 r2
  rw [bne_iff_ne] at h
  rw [bne_eq_false_iff_eq] at h3
  have e : (2 : Int) ^ 128 = B2 := by decide
  have k := bl_div (x := tI (W a) % MM) 128 (by rw [e, sum_w, h3]; simp only [BB, B2, B3] at *; omega)
  have d : (tI (W a) % MM) / 2 ^ 128 = w2 a := by rw [e, sum_w, h3]; simp only [BB, B2, B3] at *; omega
  rw [wrap_i64_in (by omega) (by omega), k, d]
  rfl
theorem size1 {a : Int} (h3 : (w3 a != 0) = false) (h2 : (w2 a != 0) = false) (h : (w1 a != 0) = true) : Value.int .i64 (IntKind.i64.wrap (64 + bl (w1 a))) = .int .i64 (bl (tI (W a) % MM)) := by
  have r0 := w0_range a
  have r1 := w1_range a
  have hb := bl64 r1
  rw [bne_iff_ne] at h
  rw [bne_eq_false_iff_eq] at h3 h2
  have e : (2 : Int) ^ 64 = BB := by decide
  have k := bl_div (x := tI (W a) % MM) 64 (by rw [e, sum_w, h3, h2]; simp only [BB, B2, B3] at *; omega)
  have d : (tI (W a) % MM) / 2 ^ 64 = w1 a := by rw [e, sum_w, h3, h2]; simp only [BB, B2, B3] at *; omega
  rw [wrap_i64_in (by omega) (by omega), k, d]
  rfl
theorem size0 {a : Int} (h3 : (w3 a != 0) = false) (h2 : (w2 a != 0) = false) (h1 : (w1 a != 0) = false) : Value.int .i64 (bl (w0 a)) = .int .i64 (bl (tI (W a) % MM)) := by
  rw [bne_eq_false_iff_eq] at h3 h2 h1
  rw [sum_w, h3, h2, h1]
  simp
theorem size_run0 (a : Int) : runF P Q1 1 91 [W a] (.lit :: (.lit :: (.lit :: (.b true :: [])))) =
  some (.int .i64 (IntKind.i64.wrap (192 + (bl (w3 a)))), [(w3 a != 0) = true, u64P [.int .u64 (w3 a)]]) := by kernel_rfl
theorem size_run1 (a : Int) : runF P Q1 1 91 [W a] (.lit :: (.lit :: (.lit :: (.b false :: (.lit :: (.lit :: (.b true :: []))))))) =
  some (.int .i64 (IntKind.i64.wrap (128 + (bl (w2 a)))), [(w3 a != 0) = false, (w2 a != 0) = true, u64P [.int .u64 (w2 a)]]) := by kernel_rfl
theorem size_run2 (a : Int) : runF P Q1 1 91 [W a] (.lit :: (.lit :: (.lit :: (.b false :: (.lit :: (.lit :: (.b false :: (.lit :: (.lit :: (.b true :: [])))))))))) =
  some (.int .i64 (IntKind.i64.wrap (64 + (bl (w1 a)))), [(w3 a != 0) = false, (w2 a != 0) = false, (w1 a != 0) = true, u64P [.int .u64 (w1 a)]]) := by kernel_rfl
theorem size_run3 (a : Int) : runF P Q1 1 91 [W a] (.lit :: (.lit :: (.lit :: (.b false :: (.lit :: (.lit :: (.b false :: (.lit :: (.lit :: (.b false :: [])))))))))) =
  some (.int .i64 (bl (w0 a)), [(w3 a != 0) = false, (w2 a != 0) = false, (w1 a != 0) = false, u64P [.int .u64 (w0 a)]]) := by kernel_rfl
theorem size_gives (args : List Value) (h : P1 args) : Gives P 91 args.toArray (sizeV args) := by
  unfold P1 at h
  split at h
  · obtain ⟨a, rfl⟩ := h
    cases q1 : (w3 a != 0) with
    | true =>
      refine gives_of_run mo (size_run0 a) (ps_cons q1 (ps_cons (u64P_w (w3_range a)) ps_nil)) ?_
      exact size3 q1
    | false =>
      cases q2 : (w2 a != 0) with
      | true =>
        refine gives_of_run mo (size_run1 a) (ps_cons q1 (ps_cons q2 (ps_cons (u64P_w (w2_range a)) ps_nil))) ?_
        exact size2 q1 q2
      | false =>
        cases q3 : (w1 a != 0) with
        | true =>
          refine gives_of_run mo (size_run2 a) (ps_cons q1 (ps_cons q2 (ps_cons q3 (ps_cons (u64P_w (w1_range a)) ps_nil)))) ?_
          exact size1 q1 q2 q3
        | false =>
          refine gives_of_run mo (size_run3 a) (ps_cons q1 (ps_cons q2 (ps_cons q3 (ps_cons (u64P_w (w0_range a)) ps_nil)))) ?_
          exact size0 q1 q2 q3
  · exact h.elim
noncomputable def size : Ctr P := ⟨91, P1, sizeV, size_gives⟩
end Go.Qt
/-
  Contracts of package quot, fourth part: plain arithmetic of shifting words.
-/
namespace Go.Qt
open Go Go.RowKit Go.Sx Go.Nm Go.Wd Go.Proofs
theorem or_add {X Y : Int} {m : Nat} {x : Int} (hX : X = x * 2 ^ m) (h0 : 0 ≤ X) (h1 : X < BB) (hy : 0 ≤ Y) (hy2 : Y < 2 ^ m) (hm : m ≤ 64) : IntKind.u64.wrap ↑(BitVec.ofInt 64 X ||| BitVec.ofInt 64 Y).toNat = X + Y := by
  have hp : (0 : Int) < 2 ^ m := Int.pow_pos (by decide)
  have hx : 0 ≤ x := by
    rcases Int.lt_trichotomy x 0 with h | h | h
    · have := Int.mul_neg_of_neg_of_pos h hp
      omega
    · omega
    · omega
  obtain ⟨u, rfl⟩ : ∃ u : Nat, x = u := ⟨x.toNat, by omega⟩
  obtain ⟨v, rfl⟩ : ∃ v : Nat, Y = v := ⟨Y.toNat, by omega⟩
  have e1 : ((u : Int) * 2 ^ m) = ((u * 2 ^ m : Nat) : Int) := by simp
  have hv : v < 2 ^ m := by
    have : (v : Int) < ((2 ^ m : Nat) : Int) := by simpa using hy2
    omega
  have hv64 : v < 2 ^ 64 := Nat.lt_of_lt_of_le hv (Nat.pow_le_pow_right (by decide) hm)
  have hu64 : u * 2 ^ m < 2 ^ 64 := by
    have : ((u * 2 ^ m : Nat) : Int) < BB := by rw [← e1, ← hX]; exact h1
    have e : BB = ((2 ^ 64 : Nat) : Int) := by decide
    rw [e] at this
    omega
  have hor : (u * 2 ^ m) ||| v = u * 2 ^ m + v := by
    have := Nat.shiftLeft_add_eq_or_of_lt hv u
    rw [Nat.shiftLeft_eq] at this
    exact this.symm
  have hsum : u * 2 ^ m + v < 2 ^ 64 := by rw [← hor]; exact Nat.or_lt_two_pow hu64 hv64
  rw [hX, e1]
  have b1 : (BitVec.ofInt 64 ((u * 2 ^ m : Nat) : Int)).toNat = u * 2 ^ m := by
    rw [BitVec.toNat_ofInt]
    have : (((u * 2 ^ m : Nat) : Int) % ((2 ^ 64 : Nat) : Int)).toNat = (u * 2 ^ m) % 2 ^ 64 := by omega
    rw [this, Nat.mod_eq_of_lt hu64]
  have b2 : (BitVec.ofInt 64 (v : Int)).toNat = v := by
    rw [BitVec.toNat_ofInt]
    have : ((v : Int) % ((2 ^ 64 : Nat) : Int)).toNat = v % 2 ^ 64 := by omega
    rw [this, Nat.mod_eq_of_lt hv64]
  rw [BitVec.toNat_or, b1, b2, hor, wrap_u64]
  have e : BB = ((2 ^ 64 : Nat) : Int) := by decide
  rw [e]
  omega
theorem sh_word (a C : Int) (m : Nat) (hm : m < 64) (hC : 0 < C) : (a * 2 ^ m) / (C * BB) % BB = ((a / (C * BB) % BB) * 2 ^ m) % BB + (a / C % BB) / 2 ^ (64 - m) := by
  obtain ⟨p, hp⟩ : ∃ p : Int, p = 2 ^ m := ⟨_, rfl⟩
  obtain ⟨s, hs⟩ : ∃ s : Int, s = 2 ^ (64 - m) := ⟨_, rfl⟩
  have hp0 : 0 < p := hp ▸ Int.pow_pos (by decide)
  have hs0 : 0 < s := hs ▸ Int.pow_pos (by decide)
  have hps : p * s = BB := by
    rw [hp, hs, ← Int.pow_add, show m + (64 - m) = 64 by omega]
    decide
  rw [← hp, ← hs]
  have hB : (0 : Int) < BB := by decide
  have e1 : a / (C * BB) = a / C / BB := (Int.ediv_ediv_of_nonneg (Int.le_of_lt hC)).symm
  rw [e1]
  obtain ⟨t, ht⟩ : ∃ t, t = a / C := ⟨_, rfl⟩
  obtain ⟨r, hr⟩ : ∃ r, r = a % C := ⟨_, rfl⟩
  have ha : a = C * t + r := by rw [ht, hr]; exact (Int.mul_ediv_add_emod a C).symm
  have hr0 : 0 ≤ r := hr ▸ Int.emod_nonneg _ (by omega)
  have hr1 : r < C := hr ▸ Int.emod_lt_of_pos _ hC
  obtain ⟨u, hu⟩ : ∃ u, u = t / BB := ⟨_, rfl⟩
  obtain ⟨w, hw⟩ : ∃ w, w = t % BB := ⟨_, rfl⟩
  have htt : t = BB * u + w := by rw [hu, hw]; exact (Int.mul_ediv_add_emod t BB).symm
  have hw0 : 0 ≤ w := hw ▸ Int.emod_nonneg _ (by omega)
  have hw1 : w < BB := hw ▸ Int.emod_lt_of_pos _ hB
  obtain ⟨g, hg⟩ : ∃ g, g = w / s := ⟨_, rfl⟩
  obtain ⟨f, hf⟩ : ∃ f, f = w % s := ⟨_, rfl⟩
  have hww : w = s * g + f := by rw [hg, hf]; exact (Int.mul_ediv_add_emod w s).symm
  have hf0 : 0 ≤ f := hf ▸ Int.emod_nonneg _ (by omega)
  have hf1 : f < s := hf ▸ Int.emod_lt_of_pos _ hs0
  have hg0 : 0 ≤ g := hg ▸ Int.ediv_nonneg hw0 (Int.le_of_lt hs0)
  have hg1 : g < p := by
    rcases Int.lt_or_le g p with h | h
    · exact h
    · exfalso
      have : s * p ≤ s * g := Int.mul_le_mul_of_nonneg_left h (Int.le_of_lt hs0)
      have e : s * p = BB := by rw [Int.mul_comm]; exact hps
      omega
  rw [← ht, ← hu, ← hw, ← hg]
  have hq : (a * p) / (C * BB) = u * p + g := by
    have hCB : 0 < C * BB := Int.mul_pos hC hB
    have hrem : a * p = (C * BB) * (u * p + g) + ((f * C + r) * p) := by
      rw [ha, htt, hww, ← hps]
      grind
    have h0 : 0 ≤ (f * C + r) * p := Int.mul_nonneg (by have := Int.mul_nonneg hf0 (Int.le_of_lt hC); omega) (Int.le_of_lt hp0)
    have h1 : (f * C + r) * p < C * BB := by
      have k1 : f * C + r < s * C := by
        have : (f + 1) * C ≤ s * C := Int.mul_le_mul_of_nonneg_right (by omega) (Int.le_of_lt hC)
        have e : (f + 1) * C = f * C + C := by grind
        omega
      have k2 : (f * C + r) * p < s * C * p := Int.mul_lt_mul_of_pos_right k1 hp0
      have e : s * C * p = C * BB := by rw [← hps]; grind
      omega
    rw [hrem, Int.mul_add_ediv_left _ _ (by omega), Int.ediv_eq_zero_of_lt h0 h1]
    omega
  rw [hq]
  have hd : (u * p) % BB = (u % BB * p) % BB := by
    have := Int.mul_emod (u % BB) p BB
    rw [Int.emod_emod_of_dvd _ (Int.dvd_refl _)] at this
    rw [this]
    exact Int.mul_emod u p BB
  obtain ⟨z, hz⟩ : ∃ z, z = u % s := ⟨_, rfl⟩
  have hz0 : 0 ≤ z := hz ▸ Int.emod_nonneg _ (by omega)
  have hz1 : z < s := hz ▸ Int.emod_lt_of_pos _ hs0
  have hup : u * p = BB * (u / s) + z * p := by
    have := Int.mul_ediv_add_emod u s
    rw [← hz] at this
    rw [← hps]
    have e : u * p = (s * (u / s) + z) * p := by rw [this]
    rw [e]
    grind
  have hzp : z * p + p ≤ BB := by
    have : (z + 1) * p ≤ s * p := Int.mul_le_mul_of_nonneg_right (by omega) (Int.le_of_lt hp0)
    have e : (z + 1) * p = z * p + p := by grind
    have e2 : s * p = BB := by rw [Int.mul_comm]; exact hps
    omega
  have hzp0 : 0 ≤ z * p := Int.mul_nonneg hz0 (Int.le_of_lt hp0)
  have h3 : (u * p) % BB = z * p := by rw [hup, Int.add_comm, Int.add_mul_emod_self_left, Int.emod_eq_of_lt hzp0 (by omega)]
  have h4 : (u * p + g) % BB = z * p + g := by rw [hup, show BB * (u / s) + z * p + g = (z * p + g) + BB * (u / s) by omega, Int.add_mul_emod_self_left, Int.emod_eq_of_lt (by omega) (by omega)]
  rw [h4, ← hd, h3]
def sh (n : Int) : Nat := (n % 64).toNat
theorem sh_lt {n : Int} : sh n < 64 := by unfold sh; omega
def lo (x n : Int) : Int := IntKind.u64.wrap (x * 2 ^ (min (n.tmod 64).toNat 64))
def hi (x n : Int) : Int := x.fdiv (2 ^ (min (IntKind.i64.wrap (64 - (n.tmod 64))).toNat 64))
def orW (x y n : Int) : Int := IntKind.u64.wrap ↑(BitVec.ofInt 64 (lo x n) ||| BitVec.ofInt 64 (hi y n)).toNat
theorem lo_eq {x n : Int} (hn : 0 ≤ n) : lo x n = (x * 2 ^ sh n) % BB := by
  unfold lo
  rw [Int.tmod_eq_emod_of_nonneg hn, wrap_u64, show min (n % 64).toNat 64 = sh n from Nat.min_eq_left (by omega)]
theorem hi_eq {x n : Int} (hn : 0 ≤ n) : hi x n = x / 2 ^ (64 - sh n) := by
  unfold hi
  rw [Int.tmod_eq_emod_of_nonneg hn, wrap_i64_in (by omega) (by omega), fd]
  congr 2
  unfold sh
  omega
theorem or_word {x y n : Int} (hn : 0 ≤ n) (hy : 0 ≤ y ∧ y < BB) : orW x y n = (x * 2 ^ sh n) % BB + y / 2 ^ (64 - sh n) := by
  have hm : sh n < 64 := sh_lt
  have hps : (2 : Int) ^ sh n * 2 ^ (64 - sh n) = BB := by
    rw [← Int.pow_add, show sh n + (64 - sh n) = 64 by omega]
    decide
  have hp0 : (0 : Int) < 2 ^ sh n := Int.pow_pos (by decide)
  have hs0 : (0 : Int) < 2 ^ (64 - sh n) := Int.pow_pos (by decide)
  have hB : (0 : Int) < BB := by decide
  unfold orW
  rw [lo_eq hn, hi_eq hn]
  refine or_add (m := sh n) (x := x % 2 ^ (64 - sh n)) ?_ (Int.emod_nonneg _ (by omega)) (Int.emod_lt_of_pos _ hB) (Int.ediv_nonneg hy.1 (Int.le_of_lt hs0)) ?_ (by omega)
  · rw [← hps, Int.mul_comm x, Int.mul_emod_mul_of_pos _ _ hp0, Int.mul_comm]
  · exact Int.ediv_lt_of_lt_mul hs0 (by rw [hps]; exact hy.2)
theorem v0 (a : Int) {n : Int} (hn : 0 ≤ n) : lo (w0 a) n = w0 (a * 2 ^ sh n) := by
  rw [lo_eq hn]
  unfold w0
  have := Int.mul_emod (a % BB) (2 ^ sh n) BB
  rw [Int.emod_emod_of_dvd _ (Int.dvd_refl _), ← Int.mul_emod] at this
  exact this
theorem v1 (a : Int) {n : Int} (hn : 0 ≤ n) : orW (w1 a) (w0 a) n = w1 (a * 2 ^ sh n) := by
  rw [or_word hn (w0_range a)]
  have := sh_word a 1 (sh n) sh_lt (by decide)
  rw [Int.one_mul, Int.ediv_one] at this
  exact this.symm
theorem v2 (a : Int) {n : Int} (hn : 0 ≤ n) : orW (w2 a) (w1 a) n = w2 (a * 2 ^ sh n) := by
  rw [or_word hn (w1_range a)]
  exact (sh_word a BB (sh n) sh_lt (by decide)).symm
theorem v3 (a : Int) {n : Int} (hn : 0 ≤ n) : orW (w3 a) (w2 a) n = w3 (a * 2 ^ sh n) := by
  rw [or_word hn (w2_range a)]
  exact (sh_word a B2 (sh n) sh_lt (by decide)).symm
theorem pow_split {n q : Int} (hn : 0 ≤ n) (hq : n / 64 = q) : (2 : Int) ^ n.toNat = 2 ^ sh n * (2 ^ 64) ^ q.toNat := by
  rw [← Int.pow_mul, ← Int.pow_add]
  congr 1
  unfold sh
  omega
theorem shift_W0 {a n : Int} (hn : 0 ≤ n) (hq : n / 64 = 0) : (.agg #[.int .u64 (lo (w0 a) n), .int .u64 (orW (w1 a) (w0 a) n), .int .u64 (orW (w2 a) (w1 a) n), .int .u64 (orW (w3 a) (w2 a) n)] : Value) = W (a * 2 ^ n.toNat) := by
  rw [v0 a hn, v1 a hn, v2 a hn, v3 a hn, pow_split hn hq]
  simp only [Int.toNat_zero, Int.pow_zero, Int.mul_one]
  rfl
theorem shift_W1 {a n : Int} (hn : 0 ≤ n) (hq : n / 64 = 1) : (.agg #[.int .u64 0, .int .u64 (lo (w0 a) n), .int .u64 (orW (w1 a) (w0 a) n), .int .u64 (orW (w2 a) (w1 a) n)] : Value) = W (a * 2 ^ n.toNat) := by
  rw [v0 a hn, v1 a hn, v2 a hn, pow_split hn hq]
  have e : ((2 : Int) ^ 64) ^ (1 : Int).toNat = BB := by decide
  rw [e, ← Int.mul_assoc]
  generalize a * 2 ^ sh n = b
  refine (W_words ?_ ?_ ?_ ?_).symm
  · unfold w0; simp only [BB]; omega
  · unfold w1 w0; simp only [BB]; omega
  · unfold w2 w1; simp only [BB, B2]; omega
  · unfold w3 w2; simp only [BB, B2, B3]; omega
theorem shift_W2 {a n : Int} (hn : 0 ≤ n) (hq : n / 64 = 2) : (.agg #[.int .u64 0, .int .u64 0, .int .u64 (lo (w0 a) n), .int .u64 (orW (w1 a) (w0 a) n)] : Value) = W (a * 2 ^ n.toNat) := by
  rw [v0 a hn, v1 a hn, pow_split hn hq]
  have e : ((2 : Int) ^ 64) ^ (2 : Int).toNat = B2 := by decide
  rw [e, ← Int.mul_assoc]
  generalize a * 2 ^ sh n = b
  refine (W_words ?_ ?_ ?_ ?_).symm
  · unfold w0; simp only [BB, B2]; omega
  · unfold w1; simp only [BB, B2]; omega
  · unfold w2 w0; simp only [BB, B2]; omega
  · unfold w3 w1; simp only [BB, B2, B3]; omega
theorem shift_W3 {a n : Int} (hn : 0 ≤ n) (hq : n / 64 = 3) : (.agg #[.int .u64 0, .int .u64 0, .int .u64 0, .int .u64 (lo (w0 a) n)] : Value) = W (a * 2 ^ n.toNat) := by
  rw [v0 a hn, pow_split hn hq]
  have e : ((2 : Int) ^ 64) ^ (3 : Int).toNat = B3 := by decide
  rw [e, ← Int.mul_assoc]
  generalize a * 2 ^ sh n = b
  refine (W_words ?_ ?_ ?_ ?_).symm
  · unfold w0; simp only [BB, B3]; omega
  · unfold w1; simp only [BB, B3]; omega
  · unfold w2; simp only [BB, B2, B3]; omega
  · unfold w3 w0; simp only [BB, B3]; omega
end Go.Qt
/-
  Contracts of package quot, fifth part: shift. Printed by quotE.py.
-/
namespace Go.Qt
open Go Go.RowKit Go.Sx Go.Nm Go.Wd Go.Proofs
def shiftP : List Value → Prop
  | [x, .int .i64 n] => IsW x ∧ 0 ≤ n ∧ n < 256
  | _ => False
def shiftV : List Value → Value
  | [x, .int _ n] => W (tI x * 2 ^ n.toNat)
  | _ => undef
theorem tm0 {n : Int} (h : 0 ≤ n) : 0 ≤ n.tmod 64 := by rw [Int.tmod_eq_emod_of_nonneg h]; omega
theorem tm1 {n : Int} (h : 0 ≤ n) : 0 ≤ IntKind.i64.wrap (64 - n.tmod 64) := by
  rw [Int.tmod_eq_emod_of_nonneg h, wrap_i64_in (by omega) (by omega)]
  omega
theorem td {n q : Int} (h : 0 ≤ n) (h2 : n < 256) (hq : n / 64 = q) : IntKind.i64.wrap (n.tdiv 64) = q := by
  rw [Int.tdiv_eq_ediv_of_nonneg h, wrap_i64_in (by omega) (by omega), hq]
theorem shift_bm {a n : Int} (e : Value) (h : e = W (a * 2 ^ n.toNat)) : e = W (tI (W a) * 2 ^ n.toNat) := by
  rw [h, tI_W]
  refine W_congr ?_
  rw [Int.mul_emod, Int.mul_emod (bm a), bm_mod]
theorem shift_run0 (a n : Int) : runF P Q0 1 92 [W a, .int .i64 n] (.lit :: (.lit :: (.b true :: (.n 0 :: (.lit :: (.b false :: (.lit :: (.b true :: (.n 1 :: (.lit :: (.b true :: (.lit :: (.n 0 :: (.lit :: (.lit :: (.b true :: (.n 2 :: (.lit :: (.b true :: (.lit :: (.n 1 :: (.lit :: (.lit :: (.b true :: (.n 3 :: (.lit :: (.b true :: (.lit :: (.n 2 :: []))))))))))))))))))))))))))))) =
  some (.agg #[.int .u64 (lo (w0 a) n), .int .u64 (orW (w1 a) (w0 a) n), .int .u64 (orW (w2 a) (w1 a) n), .int .u64 (orW (w3 a) (w2 a) n)], [(decide (IntKind.i64.wrap (0 - (IntKind.i64.wrap (n.tdiv 64))) ≥ 0)) = true, IntKind.i64.wrap (0 - (IntKind.i64.wrap (n.tdiv 64))) = 0, 0 ≤ n.tmod 64, (decide (IntKind.i64.wrap (0 - (IntKind.i64.wrap (n.tdiv 64))) > 0)) = false, (decide (IntKind.i64.wrap (1 - (IntKind.i64.wrap (n.tdiv 64))) ≥ 0)) = true, IntKind.i64.wrap (1 - (IntKind.i64.wrap (n.tdiv 64))) = 1, 0 ≤ n.tmod 64, (decide (IntKind.i64.wrap (1 - (IntKind.i64.wrap (n.tdiv 64))) > 0)) = true, IntKind.i64.wrap (IntKind.i64.wrap (1 - (IntKind.i64.wrap (n.tdiv 64))) - 1) = 0, 0 ≤ IntKind.i64.wrap (64 - (n.tmod 64)), (decide (IntKind.i64.wrap (2 - (IntKind.i64.wrap (n.tdiv 64))) ≥ 0)) = true, IntKind.i64.wrap (2 - (IntKind.i64.wrap (n.tdiv 64))) = 2, 0 ≤ n.tmod 64, (decide (IntKind.i64.wrap (2 - (IntKind.i64.wrap (n.tdiv 64))) > 0)) = true, IntKind.i64.wrap (IntKind.i64.wrap (2 - (IntKind.i64.wrap (n.tdiv 64))) - 1) = 1, 0 ≤ IntKind.i64.wrap (64 - (n.tmod 64)), (decide (IntKind.i64.wrap (3 - (IntKind.i64.wrap (n.tdiv 64))) ≥ 0)) = true, IntKind.i64.wrap (3 - (IntKind.i64.wrap (n.tdiv 64))) = 3, 0 ≤ n.tmod 64, (decide (IntKind.i64.wrap (3 - (IntKind.i64.wrap (n.tdiv 64))) > 0)) = true, IntKind.i64.wrap (IntKind.i64.wrap (3 - (IntKind.i64.wrap (n.tdiv 64))) - 1) = 2, 0 ≤ IntKind.i64.wrap (64 - (n.tmod 64))]) := by kernel_rfl
theorem shift_go0 (a n : Int) (h0 : 0 ≤ n) (h1 : n < 256) (hq : n / 64 = 0) : Gives P 92 #[W a, .int .i64 n] (shiftV [W a, .int .i64 n]) := by
  have e := td h0 h1 hq
  exact gives_of_run mo (shift_run0 a n) (ps_cons (by rw [e]; decide) (ps_cons (by rw [e]; decide) (ps_cons (tm0 h0) (ps_cons (by rw [e]; decide) (ps_cons (by rw [e]; decide) (ps_cons (by rw [e]; decide) (ps_cons (tm0 h0) (ps_cons (by rw [e]; decide) (ps_cons (by rw [e]; decide) (ps_cons (tm1 h0) (ps_cons (by rw [e]; decide) (ps_cons (by rw [e]; decide) (ps_cons (tm0 h0) (ps_cons (by rw [e]; decide) (ps_cons (by rw [e]; decide) (ps_cons (tm1 h0) (ps_cons (by rw [e]; decide) (ps_cons (by rw [e]; decide) (ps_cons (tm0 h0) (ps_cons (by rw [e]; decide) (ps_cons (by rw [e]; decide) (ps_cons (tm1 h0) ps_nil)))))))))))))))))))))) (shift_bm _ (shift_W0 h0 hq))
theorem shift_run1 (a n : Int) : runF P Q0 1 92 [W a, .int .i64 n] (.lit :: (.lit :: (.b false :: (.lit :: (.b true :: (.n 0 :: (.lit :: (.b false :: (.lit :: (.b true :: (.n 1 :: (.lit :: (.b true :: (.lit :: (.n 0 :: (.lit :: (.lit :: (.b true :: (.n 2 :: (.lit :: (.b true :: (.lit :: (.n 1 :: []))))))))))))))))))))))) =
  some (.agg #[.int .u64 0, .int .u64 (lo (w0 a) n), .int .u64 (orW (w1 a) (w0 a) n), .int .u64 (orW (w2 a) (w1 a) n)], [(decide (IntKind.i64.wrap (0 - (IntKind.i64.wrap (n.tdiv 64))) ≥ 0)) = false, (decide (IntKind.i64.wrap (1 - (IntKind.i64.wrap (n.tdiv 64))) ≥ 0)) = true, IntKind.i64.wrap (1 - (IntKind.i64.wrap (n.tdiv 64))) = 0, 0 ≤ n.tmod 64, (decide (IntKind.i64.wrap (1 - (IntKind.i64.wrap (n.tdiv 64))) > 0)) = false, (decide (IntKind.i64.wrap (2 - (IntKind.i64.wrap (n.tdiv 64))) ≥ 0)) = true, IntKind.i64.wrap (2 - (IntKind.i64.wrap (n.tdiv 64))) = 1, 0 ≤ n.tmod 64, (decide (IntKind.i64.wrap (2 - (IntKind.i64.wrap (n.tdiv 64))) > 0)) = true, IntKind.i64.wrap (IntKind.i64.wrap (2 - (IntKind.i64.wrap (n.tdiv 64))) - 1) = 0, 0 ≤ IntKind.i64.wrap (64 - (n.tmod 64)), (decide (IntKind.i64.wrap (3 - (IntKind.i64.wrap (n.tdiv 64))) ≥ 0)) = true, IntKind.i64.wrap (3 - (IntKind.i64.wrap (n.tdiv 64))) = 2, 0 ≤ n.tmod 64, (decide (IntKind.i64.wrap (3 - (IntKind.i64.wrap (n.tdiv 64))) > 0)) = true, IntKind.i64.wrap (IntKind.i64.wrap (3 - (IntKind.i64.wrap (n.tdiv 64))) - 1) = 1, 0 ≤ IntKind.i64.wrap (64 - (n.tmod 64))]) := by kernel_rfl
theorem shift_go1 (a n : Int) (h0 : 0 ≤ n) (h1 : n < 256) (hq : n / 64 = 1) : Gives P 92 #[W a, .int .i64 n] (shiftV [W a, .int .i64 n]) := by
  have e := td h0 h1 hq
  exact gives_of_run mo (shift_run1 a n) (ps_cons (by rw [e]; decide) (ps_cons (by rw [e]; decide) (ps_cons (by rw [e]; decide) (ps_cons (tm0 h0) (ps_cons (by rw [e]; decide) (ps_cons (by rw [e]; decide) (ps_cons (by rw [e]; decide) (ps_cons (tm0 h0) (ps_cons (by rw [e]; decide) (ps_cons (by rw [e]; decide) (ps_cons (tm1 h0) (ps_cons (by rw [e]; decide) (ps_cons (by rw [e]; decide) (ps_cons (tm0 h0) (ps_cons (by rw [e]; decide) (ps_cons (by rw [e]; decide) (ps_cons (tm1 h0) ps_nil))))))))))))))))) (shift_bm _ (shift_W1 h0 hq))
theorem shift_run2 (a n : Int) : runF P Q0 1 92 [W a, .int .i64 n] (.lit :: (.lit :: (.b false :: (.lit :: (.b false :: (.lit :: (.b true :: (.n 0 :: (.lit :: (.b false :: (.lit :: (.b true :: (.n 1 :: (.lit :: (.b true :: (.lit :: (.n 0 :: []))))))))))))))))) =
  some (.agg #[.int .u64 0, .int .u64 0, .int .u64 (lo (w0 a) n), .int .u64 (orW (w1 a) (w0 a) n)], [(decide (IntKind.i64.wrap (0 - (IntKind.i64.wrap (n.tdiv 64))) ≥ 0)) = false, (decide (IntKind.i64.wrap (1 - (IntKind.i64.wrap (n.tdiv 64))) ≥ 0)) = false, (decide (IntKind.i64.wrap (2 - (IntKind.i64.wrap (n.tdiv 64))) ≥ 0)) = true, IntKind.i64.wrap (2 - (IntKind.i64.wrap (n.tdiv 64))) = 0, 0 ≤ n.tmod 64, (decide (IntKind.i64.wrap (2 - (IntKind.i64.wrap (n.tdiv 64))) > 0)) = false, (decide (IntKind.i64.wrap (3 - (IntKind.i64.wrap (n.tdiv 64))) ≥ 0)) = true, IntKind.i64.wrap (3 - (IntKind.i64.wrap (n.tdiv 64))) = 1, 0 ≤ n.tmod 64, (decide (IntKind.i64.wrap (3 - (IntKind.i64.wrap (n.tdiv 64))) > 0)) = true, IntKind.i64.wrap (IntKind.i64.wrap (3 - (IntKind.i64.wrap (n.tdiv 64))) - 1) = 0, 0 ≤ IntKind.i64.wrap (64 - (n.tmod 64))]) := by kernel_rfl
theorem shift_go2 (a n : Int) (h0 : 0 ≤ n) (h1 : n < 256) (hq : n / 64 = 2) : Gives P 92 #[W a, .int .i64 n] (shiftV [W a, .int .i64 n]) := by
  have e := td h0 h1 hq
  exact gives_of_run mo (shift_run2 a n) (ps_cons (by rw [e]; decide) (ps_cons (by rw [e]; decide) (ps_cons (by rw [e]; decide) (ps_cons (by rw [e]; decide) (ps_cons (tm0 h0) (ps_cons (by rw [e]; decide) (ps_cons (by rw [e]; decide) (ps_cons (by rw [e]; decide) (ps_cons (tm0 h0) (ps_cons (by rw [e]; decide) (ps_cons (by rw [e]; decide) (ps_cons (tm1 h0) ps_nil)))))))))))) (shift_bm _ (shift_W2 h0 hq))
theorem shift_run3 (a n : Int) : runF P Q0 1 92 [W a, .int .i64 n] (.lit :: (.lit :: (.b false :: (.lit :: (.b false :: (.lit :: (.b false :: (.lit :: (.b true :: (.n 0 :: (.lit :: (.b false :: [])))))))))))) =
  some (.agg #[.int .u64 0, .int .u64 0, .int .u64 0, .int .u64 (lo (w0 a) n)], [(decide (IntKind.i64.wrap (0 - (IntKind.i64.wrap (n.tdiv 64))) ≥ 0)) = false, (decide (IntKind.i64.wrap (1 - (IntKind.i64.wrap (n.tdiv 64))) ≥ 0)) = false, (decide (IntKind.i64.wrap (2 - (IntKind.i64.wrap (n.tdiv 64))) ≥ 0)) = false, (decide (IntKind.i64.wrap (3 - (IntKind.i64.wrap (n.tdiv 64))) ≥ 0)) = true, IntKind.i64.wrap (3 - (IntKind.i64.wrap (n.tdiv 64))) = 0, 0 ≤ n.tmod 64, (decide (IntKind.i64.wrap (3 - (IntKind.i64.wrap (n.tdiv 64))) > 0)) = false]) := by kernel_rfl
theorem shift_go3 (a n : Int) (h0 : 0 ≤ n) (h1 : n < 256) (hq : n / 64 = 3) : Gives P 92 #[W a, .int .i64 n] (shiftV [W a, .int .i64 n]) := by
  have e := td h0 h1 hq
  exact gives_of_run mo (shift_run3 a n) (ps_cons (by rw [e]; decide) (ps_cons (by rw [e]; decide) (ps_cons (by rw [e]; decide) (ps_cons (by rw [e]; decide) (ps_cons (by rw [e]; decide) (ps_cons (tm0 h0) (ps_cons (by rw [e]; decide) ps_nil))))))) (shift_bm _ (shift_W3 h0 hq))
theorem shift_gives (args : List Value) (h : shiftP args) : Gives P 92 args.toArray (shiftV args) := by
  unfold shiftP at h
  split at h
  · rename_i x n
    obtain ⟨⟨a, rfl⟩, h0, h1⟩ := h
    have hq : n / 64 = 0 ∨ n / 64 = 1 ∨ n / 64 = 2 ∨ n / 64 = 3 := by omega
    rcases hq with hq | hq | hq | hq
    · exact shift_go0 a n h0 h1 hq
    · exact shift_go1 a n h0 h1 hq
    · exact shift_go2 a n h0 h1 hq
    · exact shift_go3 a n h0 h1 hq
  · exact h.elim
noncomputable def shift : Ctr P := ⟨92, shiftP, shiftV, shift_gives⟩
end Go.Qt
/-
  Contracts of package quot, sixth part: the floor by doubling: plain arithmetic.
-/
namespace Go.Qt
open Go Go.RowKit Go.Sx Go.Nm Go.Wd Go.Proofs
theorem pow2_pos (k : Nat) : (0 : Int) < 2 ^ k := Int.pow_pos (by decide)
theorem pow2_le {m n : Nat} (h : m ≤ n) : (2 : Int) ^ m ≤ 2 ^ n := by
  have := Nat.pow_le_pow_right (n := 2) (by decide) h
  have h2 : ((2 ^ m : Nat) : Int) ≤ ((2 ^ n : Nat) : Int) := by exact_mod_cast this
  simpa using h2
theorem bl_lt {x : Int} (h : 0 ≤ x) : x < 2 ^ (bl x).toNat := by
  unfold bl
  by_cases e : x = 0
  · rw [if_pos e, e]; decide
  · rw [if_neg e]
    obtain ⟨n, rfl⟩ : ∃ n : Nat, x = n := ⟨x.toNat, by omega⟩
    have h1 : (((n : Int).toNat.log2 : Int) + 1).toNat = n.log2 + 1 := by rw [Int.toNat_natCast]; omega
    rw [h1]
    have := Nat.lt_log2_self (n := n)
    have h2 : ((n : Nat) : Int) < ((2 ^ (n.log2 + 1) : Nat) : Int) := by exact_mod_cast this
    simpa using h2
theorem bl_ge {x : Int} (h : 0 < x) : 1 ≤ bl x ∧ 2 ^ (bl x - 1).toNat ≤ x := by
  unfold bl
  rw [if_neg (by omega)]
  obtain ⟨n, rfl⟩ : ∃ n : Nat, x = n := ⟨x.toNat, by omega⟩
  refine ⟨by omega, ?_⟩
  have h1 : (((n : Int).toNat.log2 : Int) + 1 - 1).toNat = n.log2 := by rw [Int.toNat_natCast]; omega
  rw [h1]
  have := Nat.log2_self_le (n := n) (by omega)
  have h2 : ((2 ^ n.log2 : Nat) : Int) ≤ ((n : Nat) : Int) := by exact_mod_cast this
  simpa using h2
theorem bl_255 {x : Int} (h : 0 ≤ x) (h2 : x < HH) : bl x ≤ 255 := bl_le 255 h (by simpa [HH] using h2)
theorem div_step {a m : Int} (hm : 0 < m) : (m ≤ a % (2 * m) → a % m = a % (2 * m) - m ∧ a / m = 2 * (a / (2 * m)) + 1) ∧ (¬ m ≤ a % (2 * m) → a % m = a % (2 * m) ∧ a / m = 2 * (a / (2 * m))) := by
  have e := Int.mul_ediv_add_emod a (2 * m)
  have r0 := Int.emod_nonneg a (b := 2 * m) (by omega)
  have r1 := Int.emod_lt_of_pos a (b := 2 * m) (by omega)
  generalize a / (2 * m) = t at *
  generalize a % (2 * m) = r at *
  have e2 : 2 * m * t = m * (2 * t) := by rw [Int.mul_comm 2 m, Int.mul_assoc]
  refine ⟨fun h => ?_, fun h => ?_⟩
  · have := (Int.ediv_emod_unique (a := a) (b := m) (r := r - m) (q := 2 * t + 1) hm).2 ⟨by rw [Int.mul_add, ← e2]; omega, by omega, by omega⟩
    exact ⟨this.2, this.1⟩
  · have := (Int.ediv_emod_unique (a := a) (b := m) (r := r) (q := 2 * t) hm).2 ⟨by rw [← e2]; omega, by omega, by omega⟩
    exact ⟨this.2, this.1⟩
theorem or_bit {X i : Int} (hi : 0 ≤ i ∧ i < 64) (h0 : 0 ≤ X) (h1 : X < BB) (hz : X % 2 ^ (i.toNat + 1) = 0) :
    IntKind.u64.wrap ↑(BitVec.ofInt 64 X ||| BitVec.ofInt 64 (IntKind.u64.wrap (1 * 2 ^ (min (i.toNat) 64)))).toNat = X + 2 ^ i.toNat ∧ X + 2 ^ i.toNat < BB := by
  obtain ⟨n, hn⟩ : ∃ n : Nat, i.toNat = n := ⟨_, rfl⟩
  rw [hn] at hz ⊢
  have hn64 : n < 64 := by omega
  have hp := pow2_pos n
  have hs : (2 : Int) ^ (n + 1) = 2 ^ n * 2 := Int.pow_succ ..
  have hB : (BB : Int) = 2 ^ (n + 1) * 2 ^ (63 - n) := by
    rw [← Int.pow_add, show n + 1 + (63 - n) = 64 by omega]; decide
  have hX : X = X / 2 ^ (n + 1) * 2 ^ (n + 1) := by
    have := Int.ediv_mul_add_emod X (2 ^ (n + 1))
    omega
  have hlt : (2 : Int) ^ n < BB := by
    have : (2 : Int) ^ n < 2 ^ 64 := Int.pow_lt_pow_of_lt (by decide) hn64
    simpa [BB] using this
  have hq : X / 2 ^ (n + 1) + 1 ≤ 2 ^ (63 - n) := by
    have : X / 2 ^ (n + 1) < 2 ^ (63 - n) := Int.ediv_lt_of_lt_mul (pow2_pos _) (by rw [Int.mul_comm, ← hB]; exact h1)
    omega
  have hfin : X + 2 ^ (n + 1) ≤ BB := by
    have := Int.mul_le_mul_of_nonneg_right hq (Int.le_of_lt (pow2_pos (n + 1)))
    rw [Int.add_mul, ← hX, Int.one_mul, Int.mul_comm (2 ^ (63 - n)), ← hB] at this
    exact this
  refine ⟨?_, by omega⟩
  have e1 : IntKind.u64.wrap (1 * 2 ^ (min n 64)) = 2 ^ n := by
    rw [Nat.min_eq_left (by omega), Int.one_mul, wrap_u64, Int.emod_eq_of_lt (by omega) hlt]
  rw [e1]
  exact or_add hX h0 h1 (by omega) (by omega) (by omega)
theorem word_zero {t : Int} {i : Nat} (hi : i < 64) : (t * 2 ^ (i + 1)) % BB % 2 ^ (i + 1) = 0 := by
  have hB : (BB : Int) = 2 ^ (i + 1) * 2 ^ (63 - i) := by
    rw [← Int.pow_add, show i + 1 + (63 - i) = 64 by omega]; decide
  rw [hB, Int.emod_emod_of_dvd _ (Int.dvd_mul_right _ _), Int.mul_emod_left]
def bitW (X n : Int) : Int := IntKind.u64.wrap ↑(BitVec.ofInt 64 X ||| BitVec.ofInt 64 (IntKind.u64.wrap (1 * 2 ^ (min (n.tmod 64).toNat 64)))).toNat
theorem bit_pow {n j : Int} (h : 0 ≤ n) (hj : n / 64 = j) : (2 : Int) ^ n.toNat = (2 ^ 64) ^ j.toNat * 2 ^ (n % 64).toNat := by
  rw [← Int.pow_mul, ← Int.pow_add]
  congr 1
  omega
theorem bit_pow1 {n j : Int} (h : 0 ≤ n) (hj : n / 64 = j) : (2 : Int) ^ (n.toNat + 1) = 2 ^ ((n % 64).toNat + 1) * (2 ^ 64) ^ j.toNat := by
  rw [Int.pow_succ 2 n.toNat, bit_pow h hj, Int.pow_succ 2 (n % 64).toNat, Int.mul_assoc, Int.mul_comm]
theorem bit_core {X n : Int} {t : Int} (h : 0 ≤ n) (hX : X = (t * 2 ^ ((n % 64).toNat + 1)) % BB) : bitW X n = X + 2 ^ (n % 64).toNat ∧ X + 2 ^ (n % 64).toNat < BB := by
  unfold bitW
  rw [Int.tmod_eq_emod_of_nonneg h]
  have hb : (BB : Int) = 18446744073709551616 := rfl
  refine or_bit ⟨by omega, by omega⟩ ?_ ?_ ?_
  · rw [hX]; exact Int.emod_nonneg _ (by rw [hb]; decide)
  · rw [hX]; exact Int.emod_lt_of_pos _ (by rw [hb]; decide)
  · rw [hX]; exact word_zero (by omega)
theorem setbit0 {t n q q' : Int} (h : 0 ≤ n) (hj : n / 64 = 0) (hq : q = t * 2 ^ (n.toNat + 1)) (hq' : q' = q + 2 ^ n.toNat) (_ : 0 ≤ q) : bitW (w0 q) n = w0 q' ∧ w1 q = w1 q' ∧ w2 q = w2 q' ∧ w3 q = w3 q' := by
  have e := bit_pow h hj
  have e1 := bit_pow1 h hj
  have hX : w0 q = (t * 2 ^ ((n % 64).toNat + 1)) % BB := by rw [hq, e1]; simp [w0]
  obtain ⟨f1, f2⟩ := bit_core h hX
  rw [f1]
  have hp := pow2_pos (n % 64).toNat
  simp only [Int.toNat_zero, Int.pow_zero, Int.one_mul] at e
  rw [e] at hq'
  generalize (2 : Int) ^ (n % 64).toNat = y at *
  unfold w0 w1 w2 w3 at *
  simp only [BB, B2, B3] at *
  omega
theorem setbit1 {t n q q' : Int} (h : 0 ≤ n) (hj : n / 64 = 1) (hq : q = t * 2 ^ (n.toNat + 1)) (hq' : q' = q + 2 ^ n.toNat) (_ : 0 ≤ q) : w0 q = w0 q' ∧ bitW (w1 q) n = w1 q' ∧ w2 q = w2 q' ∧ w3 q = w3 q' := by
  have e := bit_pow h hj
  have e1 := bit_pow1 h hj
  have c : ((2 : Int) ^ 64) ^ (1 : Int).toNat = BB := by decide
  rw [c] at e e1
  have hX : w1 q = (t * 2 ^ ((n % 64).toNat + 1)) % BB := by
    unfold w1
    rw [hq, e1, ← Int.mul_assoc, Int.mul_ediv_cancel _ (by decide)]
  obtain ⟨f1, f2⟩ := bit_core h hX
  rw [f1]
  have hp := pow2_pos (n % 64).toNat
  rw [e] at hq'
  generalize (2 : Int) ^ (n % 64).toNat = y at *
  unfold w0 w1 w2 w3 at *
  simp only [BB, B2, B3] at *
  omega
theorem setbit2 {t n q q' : Int} (h : 0 ≤ n) (hj : n / 64 = 2) (hq : q = t * 2 ^ (n.toNat + 1)) (hq' : q' = q + 2 ^ n.toNat) (_ : 0 ≤ q) : w0 q = w0 q' ∧ w1 q = w1 q' ∧ bitW (w2 q) n = w2 q' ∧ w3 q = w3 q' := by
  have e := bit_pow h hj
  have e1 := bit_pow1 h hj
  have c : ((2 : Int) ^ 64) ^ (2 : Int).toNat = B2 := by decide
  rw [c] at e e1
  have hX : w2 q = (t * 2 ^ ((n % 64).toNat + 1)) % BB := by
    unfold w2
    rw [hq, e1, ← Int.mul_assoc, Int.mul_ediv_cancel _ (by decide)]
  obtain ⟨f1, f2⟩ := bit_core h hX
  rw [f1]
  have hp := pow2_pos (n % 64).toNat
  rw [e] at hq'
  generalize (2 : Int) ^ (n % 64).toNat = y at *
  unfold w0 w1 w2 w3 at *
  simp only [BB, B2, B3] at *
  omega
theorem setbit3 {t n q q' : Int} (h : 0 ≤ n) (hj : n / 64 = 3) (hq : q = t * 2 ^ (n.toNat + 1)) (hq' : q' = q + 2 ^ n.toNat) (_ : 0 ≤ q) : w0 q = w0 q' ∧ w1 q = w1 q' ∧ w2 q = w2 q' ∧ bitW (w3 q) n = w3 q' := by
  have e := bit_pow h hj
  have e1 := bit_pow1 h hj
  have c : ((2 : Int) ^ 64) ^ (3 : Int).toNat = B3 := by decide
  rw [c] at e e1
  have hX : w3 q = (t * 2 ^ ((n % 64).toNat + 1)) % BB := by
    unfold w3
    rw [hq, e1, ← Int.mul_assoc, Int.mul_ediv_cancel _ (by decide)]
  obtain ⟨f1, f2⟩ := bit_core h hX
  rw [f1]
  have hp := pow2_pos (n % 64).toNat
  rw [e] at hq'
  generalize (2 : Int) ^ (n % 64).toNat = y at *
  unfold w0 w1 w2 w3 at *
  simp only [BB, B2, B3] at *
  omega
theorem reach {a b : Int} (ha : 0 ≤ a) (hb : 0 < b) (hn : 0 ≤ bl a - bl b) : a < b * 2 ^ ((bl a - bl b).toNat + 1) := by
  have h1 := bl_lt ha
  obtain ⟨h2, h3⟩ := bl_ge hb
  have h4 := Int.mul_le_mul_of_nonneg_right h3 (Int.le_of_lt (pow2_pos ((bl a - bl b).toNat + 1)))
  rw [← Int.pow_add, show (bl b - 1).toNat + ((bl a - bl b).toNat + 1) = (bl a).toNat by omega] at h4
  omega
theorem reach0 {a b : Int} (ha : 0 ≤ a) (hb : 0 < b) (hn : bl a - bl b < 0) : a < b := by
  have h1 := bl_lt ha
  obtain ⟨h2, h3⟩ := bl_ge hb
  have h4 : (2 : Int) ^ (bl a).toNat ≤ 2 ^ (bl b - 1).toNat := pow2_le (by omega)
  omega
theorem shifted {a b n : Int} (ha : 0 ≤ a) (ha2 : a < HH) (hb : 0 < b) (hn : 0 ≤ n) (hn2 : n ≤ bl a - bl b) : b * 2 ^ n.toNat < HH := by
  have h1 := bl_lt (Int.le_of_lt hb)
  have h2 := bl_255 ha ha2
  have h4 := Int.mul_lt_mul_of_pos_right h1 (pow2_pos n.toNat)
  rw [← Int.pow_add] at h4
  have h5 : (2 : Int) ^ ((bl b).toNat + n.toNat) ≤ 2 ^ 255 := pow2_le (by have := (bl_ge hb).1; omega)
  have h6 : (2 : Int) ^ 255 = HH := by decide
  omega
end Go.Qt
/-
  Contracts of package quot, seventh part: the floor by doubling: the loop. Printed by quotG.py.
-/
namespace Go.Qt
open Go Go.RowKit Go.Sx Go.Nm Go.Wd Go.Proofs
def recOf (c : Code) (N : Nat) (ts : List (Nat × SV)) : LoopS :=
  match c with
  | .rangeFunc _ ps x y => ⟨.ready, none, ts, N, ps.toList, x, y⟩
  | _ => ⟨.ready, none, ts, N, [], .skip, .skip⟩
noncomputable def QP : Env P := ⟨⟨size :: shift :: wideC, []⟩, [], 10, []⟩
noncomputable def pBody : Code := bodyOf (innerOf P 90 0)
noncomputable def pRest : Code := (findLabel pBody 0).getD .skip
noncomputable def pRec (a b : Int) : LoopS := recOf (innerOf P 71 0) 34 [(10, .fn 90 [(7, 0), (8, 0)]), (9, .v (W b)), (8, .v (W a)), (5, .ptr 3 0), (4, .ptr 2 0), (3, .ptr 1 0), (2, .ptr 0 0), (0, .v (W a)), (1, .v (W b))]
noncomputable def pSt0 (a b : Int) : St := ⟨[(0, .yld 12), (1, .ptr 7 0), (2, .ptr 8 0)], [(8, (.whole (W b), 56)), (7, (.whole (W a), 56)), (3, (.whole (W 0), 56)), (2, (.whole (W 0), 56)), (1, (.whole (W b), 56)), (0, (.whole (W a), 56))], [(12, pRec a b)], [12, 8, 7, 3, 2, 1, 0], []⟩
noncomputable def pSt (a b n x q : Int) : St := ⟨[(4, .v (.int .i64 n)), (0, .yld 12), (1, .ptr 7 0), (2, .ptr 8 0)], [(8, (.whole (W b), 56)), (7, (.whole (W a), 56)), (3, (.whole (W 0), 56)), (2, (.whole (W q), 56)), (1, (.whole (W b), 56)), (0, (.whole (W x), 56))], [(12, pRec a b)], [12, 8, 7, 3, 2, 1, 0], []⟩
def n0 (a b : Int) : Int := IntKind.i64.wrap (bl (tI (W a) % MM) - (bl (tI (W b) % MM)))
noncomputable def pFin (a b y r : Int) : St := ⟨[(0, .yld 12), (1, .ptr 7 0), (2, .ptr 8 0)], [(8, (.whole (W b), 56)), (7, (.whole (W a), 56)), (3, (.whole (W 0), 56)), (2, (.whole (W r), 56)), (1, (.whole (W b), 56)), (0, (.whole (W y), 56))], [(12, pRec a b)], [12, 8, 7, 3, 2, 1, 0], []⟩
noncomputable def psA0 (a b n x q m y r : Int) : List Prop :=
    [(decide (n ≥ 0)) = true, shiftP [W b, .int .i64 n], P2 [W (tI (W b) * 2 ^ n.toNat), W x], (decide (cmp3 (tI (W (tI (W b) * 2 ^ n.toNat))) (tI (W x)) ≤ 0)) = true, P2 [W x, W (tI (W b) * 2 ^ n.toNat)], IntKind.i64.wrap (n.tdiv 64) = 0, 0 ≤ n.tmod 64, IntKind.i64.wrap (n.tdiv 64) = 0, (.int .i64 (IntKind.i64.wrap (n - 1)) : Value) = .int .i64 m, (.yld 12 : SV) = .yld 12, (.ptr 7 0 : SV) = .ptr 7 0, (.ptr 8 0 : SV) = .ptr 8 0, (W b : Value) = W b, (W a : Value) = W a, (W 0 : Value) = W 0, (.int .u64 (bitW (w0 q) n) : Value) = .int .u64 (w0 r), (.int .u64 (w1 q) : Value) = .int .u64 (w1 r), (.int .u64 (w2 q) : Value) = .int .u64 (w2 r), (.int .u64 (w3 q) : Value) = .int .u64 (w3 r), (W b : Value) = W b, (W (tI (W x) - tI (W (tI (W b) * 2 ^ n.toNat))) : Value) = W y, pRec a b = pRec a b]
theorem runA0 (a b n x q m y r : Int) (k : Nat) : stepF P QP 6 22 pRest (pSt a b n x q) (.b true :: (.b true :: (.n 0 :: (.n 0 :: [])))) 1000 (fun _ => some (pSt a b m y r)) k = some (.goto 0, k, psA0 a b n x q m y r) := by kernel_rfl
theorem iniA0 (a b m y r : Int) (k : Nat) : stepF P QP 6 22 pBody (pSt0 a b) (.b true :: (.b true :: (.n 0 :: (.n 0 :: [])))) 1000 (fun _ => some (pSt a b m y r)) k = some (.goto 0, k, P1 [W a] :: P1 [W b] :: psA0 a b (n0 a b) a 0 m y r) := by kernel_rfl
noncomputable def psA1 (a b n x q m y r : Int) : List Prop :=
    [(decide (n ≥ 0)) = true, shiftP [W b, .int .i64 n], P2 [W (tI (W b) * 2 ^ n.toNat), W x], (decide (cmp3 (tI (W (tI (W b) * 2 ^ n.toNat))) (tI (W x)) ≤ 0)) = true, P2 [W x, W (tI (W b) * 2 ^ n.toNat)], IntKind.i64.wrap (n.tdiv 64) = 1, 0 ≤ n.tmod 64, IntKind.i64.wrap (n.tdiv 64) = 1, (.int .i64 (IntKind.i64.wrap (n - 1)) : Value) = .int .i64 m, (.yld 12 : SV) = .yld 12, (.ptr 7 0 : SV) = .ptr 7 0, (.ptr 8 0 : SV) = .ptr 8 0, (W b : Value) = W b, (W a : Value) = W a, (W 0 : Value) = W 0, (.int .u64 (w0 q) : Value) = .int .u64 (w0 r), (.int .u64 (bitW (w1 q) n) : Value) = .int .u64 (w1 r), (.int .u64 (w2 q) : Value) = .int .u64 (w2 r), (.int .u64 (w3 q) : Value) = .int .u64 (w3 r), (W b : Value) = W b, (W (tI (W x) - tI (W (tI (W b) * 2 ^ n.toNat))) : Value) = W y, pRec a b = pRec a b]
theorem runA1 (a b n x q m y r : Int) (k : Nat) : stepF P QP 6 22 pRest (pSt a b n x q) (.b true :: (.b true :: (.n 1 :: (.n 1 :: [])))) 1000 (fun _ => some (pSt a b m y r)) k = some (.goto 0, k, psA1 a b n x q m y r) := by kernel_rfl
theorem iniA1 (a b m y r : Int) (k : Nat) : stepF P QP 6 22 pBody (pSt0 a b) (.b true :: (.b true :: (.n 1 :: (.n 1 :: [])))) 1000 (fun _ => some (pSt a b m y r)) k = some (.goto 0, k, P1 [W a] :: P1 [W b] :: psA1 a b (n0 a b) a 0 m y r) := by kernel_rfl
noncomputable def psA2 (a b n x q m y r : Int) : List Prop :=
    [(decide (n ≥ 0)) = true, shiftP [W b, .int .i64 n], P2 [W (tI (W b) * 2 ^ n.toNat), W x], (decide (cmp3 (tI (W (tI (W b) * 2 ^ n.toNat))) (tI (W x)) ≤ 0)) = true, P2 [W x, W (tI (W b) * 2 ^ n.toNat)], IntKind.i64.wrap (n.tdiv 64) = 2, 0 ≤ n.tmod 64, IntKind.i64.wrap (n.tdiv 64) = 2, (.int .i64 (IntKind.i64.wrap (n - 1)) : Value) = .int .i64 m, (.yld 12 : SV) = .yld 12, (.ptr 7 0 : SV) = .ptr 7 0, (.ptr 8 0 : SV) = .ptr 8 0, (W b : Value) = W b, (W a : Value) = W a, (W 0 : Value) = W 0, (.int .u64 (w0 q) : Value) = .int .u64 (w0 r), (.int .u64 (w1 q) : Value) = .int .u64 (w1 r), (.int .u64 (bitW (w2 q) n) : Value) = .int .u64 (w2 r), (.int .u64 (w3 q) : Value) = .int .u64 (w3 r), (W b : Value) = W b, (W (tI (W x) - tI (W (tI (W b) * 2 ^ n.toNat))) : Value) = W y, pRec a b = pRec a b]
theorem runA2 (a b n x q m y r : Int) (k : Nat) : stepF P QP 6 22 pRest (pSt a b n x q) (.b true :: (.b true :: (.n 2 :: (.n 2 :: [])))) 1000 (fun _ => some (pSt a b m y r)) k = some (.goto 0, k, psA2 a b n x q m y r) := by kernel_rfl
theorem iniA2 (a b m y r : Int) (k : Nat) : stepF P QP 6 22 pBody (pSt0 a b) (.b true :: (.b true :: (.n 2 :: (.n 2 :: [])))) 1000 (fun _ => some (pSt a b m y r)) k = some (.goto 0, k, P1 [W a] :: P1 [W b] :: psA2 a b (n0 a b) a 0 m y r) := by kernel_rfl
noncomputable def psA3 (a b n x q m y r : Int) : List Prop :=
    [(decide (n ≥ 0)) = true, shiftP [W b, .int .i64 n], P2 [W (tI (W b) * 2 ^ n.toNat), W x], (decide (cmp3 (tI (W (tI (W b) * 2 ^ n.toNat))) (tI (W x)) ≤ 0)) = true, P2 [W x, W (tI (W b) * 2 ^ n.toNat)], IntKind.i64.wrap (n.tdiv 64) = 3, 0 ≤ n.tmod 64, IntKind.i64.wrap (n.tdiv 64) = 3, (.int .i64 (IntKind.i64.wrap (n - 1)) : Value) = .int .i64 m, (.yld 12 : SV) = .yld 12, (.ptr 7 0 : SV) = .ptr 7 0, (.ptr 8 0 : SV) = .ptr 8 0, (W b : Value) = W b, (W a : Value) = W a, (W 0 : Value) = W 0, (.int .u64 (w0 q) : Value) = .int .u64 (w0 r), (.int .u64 (w1 q) : Value) = .int .u64 (w1 r), (.int .u64 (w2 q) : Value) = .int .u64 (w2 r), (.int .u64 (bitW (w3 q) n) : Value) = .int .u64 (w3 r), (W b : Value) = W b, (W (tI (W x) - tI (W (tI (W b) * 2 ^ n.toNat))) : Value) = W y, pRec a b = pRec a b]
theorem runA3 (a b n x q m y r : Int) (k : Nat) : stepF P QP 6 22 pRest (pSt a b n x q) (.b true :: (.b true :: (.n 3 :: (.n 3 :: [])))) 1000 (fun _ => some (pSt a b m y r)) k = some (.goto 0, k, psA3 a b n x q m y r) := by kernel_rfl
theorem iniA3 (a b m y r : Int) (k : Nat) : stepF P QP 6 22 pBody (pSt0 a b) (.b true :: (.b true :: (.n 3 :: (.n 3 :: [])))) 1000 (fun _ => some (pSt a b m y r)) k = some (.goto 0, k, P1 [W a] :: P1 [W b] :: psA3 a b (n0 a b) a 0 m y r) := by kernel_rfl
noncomputable def psB (a b n x q m y r : Int) : List Prop :=
    [(decide (n ≥ 0)) = true, shiftP [W b, .int .i64 n], P2 [W (tI (W b) * 2 ^ n.toNat), W x], (decide (cmp3 (tI (W (tI (W b) * 2 ^ n.toNat))) (tI (W x)) ≤ 0)) = false, (.int .i64 (IntKind.i64.wrap (n - 1)) : Value) = .int .i64 m, (.yld 12 : SV) = .yld 12, (.ptr 7 0 : SV) = .ptr 7 0, (.ptr 8 0 : SV) = .ptr 8 0, (W b : Value) = W b, (W a : Value) = W a, (W 0 : Value) = W 0, (W q : Value) = W r, (W b : Value) = W b, (W x : Value) = W y, pRec a b = pRec a b]
theorem runB (a b n x q m y r : Int) (k : Nat) : stepF P QP 6 22 pRest (pSt a b n x q) (.b true :: (.b false :: [])) 1000 (fun _ => some (pSt a b m y r)) k = some (.goto 0, k, psB a b n x q m y r) := by kernel_rfl
theorem iniB (a b m y r : Int) (k : Nat) : stepF P QP 6 22 pBody (pSt0 a b) (.b true :: (.b false :: [])) 1000 (fun _ => some (pSt a b m y r)) k = some (.goto 0, k, P1 [W a] :: P1 [W b] :: psB a b (n0 a b) a 0 m y r) := by kernel_rfl
noncomputable def psX (a b n x q _m y r : Int) : List Prop :=
    [(decide (n ≥ 0)) = false, (.yld 12 : SV) = .yld 12, (.ptr 7 0 : SV) = .ptr 7 0, (.ptr 8 0 : SV) = .ptr 8 0, (W b : Value) = W b, (W a : Value) = W a, (W 0 : Value) = W 0, (W q : Value) = W r, (W b : Value) = W b, (W x : Value) = W y, pRec a b = pRec a b]
theorem runX (a b n x q m y r : Int) (k : Nat) : stepF P QP 6 22 pRest (pSt a b n x q) (.b false :: []) 1000 (fun _ => some (pFin a b y r)) k = some (.normal, k, psX a b n x q m y r) := by kernel_rfl
theorem iniX (a b m y r : Int) (k : Nat) : stepF P QP 6 22 pBody (pSt0 a b) (.b false :: []) 1000 (fun _ => some (pFin a b y r)) k = some (.normal, k, P1 [W a] :: P1 [W b] :: psX a b (n0 a b) a 0 m y r) := by kernel_rfl
theorem emod_le {a b : Int} (ha : 0 ≤ a) (hb : 0 < b) : a % b ≤ a := by
  have e := Int.mul_ediv_add_emod a b
  have := Int.mul_nonneg (Int.le_of_lt hb) (Int.ediv_nonneg ha (Int.le_of_lt hb))
  omega
def At (a b n x q : Int) : Prop := x = a % (b * 2 ^ (n + 1).toNat) ∧ q = a / (b * 2 ^ (n + 1).toNat) * 2 ^ (n + 1).toNat
section
variable {a b n x q : Int} (ha : 0 ≤ a ∧ a < HH) (hb : 0 < b ∧ b < HH) (hn : 0 ≤ n ∧ n ≤ bl a - bl b) (hi : At a b n x q)
include ha hb hn hi
theorem at_x : InR x ∧ InR b ∧ InR (b * 2 ^ n.toNat) ∧ n ≤ 254 ∧ 0 < b * 2 ^ n.toNat ∧ (n + 1).toNat = n.toNat + 1 ∧ b * 2 ^ (n.toNat + 1) = 2 * (b * 2 ^ n.toNat) := by
  have h1 := shifted ha.1 ha.2 hb.1 hn.1 hn.2
  have h2 := bl_255 ha.1 ha.2
  have h3 := (bl_ge hb.1).1
  have h4 : 0 < b * 2 ^ n.toNat := Int.mul_pos hb.1 (pow2_pos _)
  have e : b * 2 ^ (n.toNat + 1) = 2 * (b * 2 ^ n.toNat) := by rw [Int.pow_succ, ← Int.mul_assoc, Int.mul_comm]
  have e2 : (n + 1).toNat = n.toNat + 1 := by omega
  have h5 : 0 < b * 2 ^ (n.toNat + 1) := by omega
  have hx := hi.1
  rw [e2] at hx
  have r0 := Int.emod_nonneg a (b := b * 2 ^ (n.toNat + 1)) (by omega)
  have r1 : a % (b * 2 ^ (n.toNat + 1)) ≤ a := emod_le ha.1 h5
  unfold InR
  refine ⟨by omega, by omega, by omega, by omega, h4, e2, e⟩
theorem at_c : (decide (cmp3 (tI (W (tI (W b) * 2 ^ n.toNat))) (tI (W x)) ≤ 0)) = decide (b * 2 ^ n.toNat ≤ x) := by
  obtain ⟨h1, h2, h3, _⟩ := at_x ha hb hn hi
  rw [tI_in h2, tI_in h3, tI_in h1, decide_eq_decide]
  unfold cmp3
  omega
theorem at_b (h : ¬ b * 2 ^ n.toNat ≤ x) : At a b (n - 1) x q := by
  obtain ⟨h1, h2, h3, h4, h5, h6, h7⟩ := at_x ha hb hn hi
  obtain ⟨i1, i2⟩ := hi
  rw [h6, h7] at i1 i2
  rw [i1] at h
  obtain ⟨e1, e2⟩ := (div_step (a := a) h5).2 h
  have e3 : (n - 1 + 1).toNat = n.toNat := by omega
  refine ⟨by rw [e3, e1, i1], ?_⟩
  rw [e3, e2, i2, Int.pow_succ, Int.mul_comm (2 ^ n.toNat) 2, ← Int.mul_assoc, Int.mul_comm _ 2]
theorem at_a (h : b * 2 ^ n.toNat ≤ x) : At a b (n - 1) (x - b * 2 ^ n.toNat) (q + 2 ^ n.toNat) ∧ 0 ≤ q := by
  obtain ⟨h1, h2, h3, h4, h5, h6, h7⟩ := at_x ha hb hn hi
  obtain ⟨i1, i2⟩ := hi
  rw [h6, h7] at i1 i2
  rw [i1] at h
  obtain ⟨e1, e2⟩ := (div_step (a := a) h5).1 h
  have e3 : (n - 1 + 1).toNat = n.toNat := by omega
  refine ⟨⟨by rw [e3, e1, i1], ?_⟩, ?_⟩
  · rw [e3, e2, i2, Int.pow_succ, Int.mul_comm (2 ^ n.toNat) 2, ← Int.mul_assoc, Int.mul_comm _ 2, Int.add_mul, Int.one_mul]
  · rw [i2]
    exact Int.mul_nonneg (Int.ediv_nonneg ha.1 (by omega)) (Int.le_of_lt (pow2_pos _))
theorem okA0 (hj : n / 64 = 0) (h : b * 2 ^ n.toNat ≤ x) : ∀ p ∈ psA0 a b n x q (n - 1) (x - b * 2 ^ n.toNat) (q + 2 ^ n.toNat), p := by
  obtain ⟨g1, g2, g3, g4, g5, g6, g7⟩ := at_x ha hb hn hi
  have hq := hi.2
  rw [g6] at hq
  obtain ⟨f0, f1, f2, f3⟩ := setbit0 hn.1 hj hq rfl (at_a ha hb hn hi h).2
  exact (ps_cons (decide_eq_true hn.1) (ps_cons ⟨⟨_, rfl⟩, hn.1, by omega⟩ (ps_cons (P2_W _ _) (ps_cons ((at_c ha hb hn hi).trans (decide_eq_true h)) (ps_cons (P2_W _ _) (ps_cons (td hn.1 (by omega) hj) (ps_cons (tm0 hn.1) (ps_cons (td hn.1 (by omega) hj) (ps_cons (by rw [wrap_i64_in (by omega) (by omega)]) (ps_cons rfl (ps_cons rfl (ps_cons rfl (ps_cons rfl (ps_cons rfl (ps_cons rfl (ps_cons (by rw [f0]) (ps_cons (by rw [f1]) (ps_cons (by rw [f2]) (ps_cons (by rw [f3]) (ps_cons rfl (ps_cons (by rw [tI_in g2, tI_in g3, tI_in g1]) (ps_cons rfl ps_nil))))))))))))))))))))))
theorem okA1 (hj : n / 64 = 1) (h : b * 2 ^ n.toNat ≤ x) : ∀ p ∈ psA1 a b n x q (n - 1) (x - b * 2 ^ n.toNat) (q + 2 ^ n.toNat), p := by
  obtain ⟨g1, g2, g3, g4, g5, g6, g7⟩ := at_x ha hb hn hi
  have hq := hi.2
  rw [g6] at hq
  obtain ⟨f0, f1, f2, f3⟩ := setbit1 hn.1 hj hq rfl (at_a ha hb hn hi h).2
  exact (ps_cons (decide_eq_true hn.1) (ps_cons ⟨⟨_, rfl⟩, hn.1, by omega⟩ (ps_cons (P2_W _ _) (ps_cons ((at_c ha hb hn hi).trans (decide_eq_true h)) (ps_cons (P2_W _ _) (ps_cons (td hn.1 (by omega) hj) (ps_cons (tm0 hn.1) (ps_cons (td hn.1 (by omega) hj) (ps_cons (by rw [wrap_i64_in (by omega) (by omega)]) (ps_cons rfl (ps_cons rfl (ps_cons rfl (ps_cons rfl (ps_cons rfl (ps_cons rfl (ps_cons (by rw [f0]) (ps_cons (by rw [f1]) (ps_cons (by rw [f2]) (ps_cons (by rw [f3]) (ps_cons rfl (ps_cons (by rw [tI_in g2, tI_in g3, tI_in g1]) (ps_cons rfl ps_nil))))))))))))))))))))))
theorem okA2 (hj : n / 64 = 2) (h : b * 2 ^ n.toNat ≤ x) : ∀ p ∈ psA2 a b n x q (n - 1) (x - b * 2 ^ n.toNat) (q + 2 ^ n.toNat), p := by
  obtain ⟨g1, g2, g3, g4, g5, g6, g7⟩ := at_x ha hb hn hi
  have hq := hi.2
  rw [g6] at hq
  obtain ⟨f0, f1, f2, f3⟩ := setbit2 hn.1 hj hq rfl (at_a ha hb hn hi h).2
  exact (ps_cons (decide_eq_true hn.1) (ps_cons ⟨⟨_, rfl⟩, hn.1, by omega⟩ (ps_cons (P2_W _ _) (ps_cons ((at_c ha hb hn hi).trans (decide_eq_true h)) (ps_cons (P2_W _ _) (ps_cons (td hn.1 (by omega) hj) (ps_cons (tm0 hn.1) (ps_cons (td hn.1 (by omega) hj) (ps_cons (by rw [wrap_i64_in (by omega) (by omega)]) (ps_cons rfl (ps_cons rfl (ps_cons rfl (ps_cons rfl (ps_cons rfl (ps_cons rfl (ps_cons (by rw [f0]) (ps_cons (by rw [f1]) (ps_cons (by rw [f2]) (ps_cons (by rw [f3]) (ps_cons rfl (ps_cons (by rw [tI_in g2, tI_in g3, tI_in g1]) (ps_cons rfl ps_nil))))))))))))))))))))))
theorem okA3 (hj : n / 64 = 3) (h : b * 2 ^ n.toNat ≤ x) : ∀ p ∈ psA3 a b n x q (n - 1) (x - b * 2 ^ n.toNat) (q + 2 ^ n.toNat), p := by
  obtain ⟨g1, g2, g3, g4, g5, g6, g7⟩ := at_x ha hb hn hi
  have hq := hi.2
  rw [g6] at hq
  obtain ⟨f0, f1, f2, f3⟩ := setbit3 hn.1 hj hq rfl (at_a ha hb hn hi h).2
  exact (ps_cons (decide_eq_true hn.1) (ps_cons ⟨⟨_, rfl⟩, hn.1, by omega⟩ (ps_cons (P2_W _ _) (ps_cons ((at_c ha hb hn hi).trans (decide_eq_true h)) (ps_cons (P2_W _ _) (ps_cons (td hn.1 (by omega) hj) (ps_cons (tm0 hn.1) (ps_cons (td hn.1 (by omega) hj) (ps_cons (by rw [wrap_i64_in (by omega) (by omega)]) (ps_cons rfl (ps_cons rfl (ps_cons rfl (ps_cons rfl (ps_cons rfl (ps_cons rfl (ps_cons (by rw [f0]) (ps_cons (by rw [f1]) (ps_cons (by rw [f2]) (ps_cons (by rw [f3]) (ps_cons rfl (ps_cons (by rw [tI_in g2, tI_in g3, tI_in g1]) (ps_cons rfl ps_nil))))))))))))))))))))))
theorem okB (h : ¬ b * 2 ^ n.toNat ≤ x) : ∀ p ∈ psB a b n x q (n - 1) x q, p := by
  obtain ⟨g1, g2, g3, g4, g5, g6, g7⟩ := at_x ha hb hn hi
  exact (ps_cons (decide_eq_true hn.1) (ps_cons ⟨⟨_, rfl⟩, hn.1, by omega⟩ (ps_cons (P2_W _ _) (ps_cons ((at_c ha hb hn hi).trans (decide_eq_false h)) (ps_cons (by rw [wrap_i64_in (by omega) (by omega)]) (ps_cons rfl (ps_cons rfl (ps_cons rfl (ps_cons rfl (ps_cons rfl (ps_cons rfl (ps_cons rfl (ps_cons rfl (ps_cons rfl (ps_cons rfl ps_nil)))))))))))))))
end
theorem okX {a b n x q : Int} (h : n < 0) : ∀ p ∈ psX a b n x q 0 x q, p :=
  ps_cons (decide_eq_false (by omega)) (ps_cons rfl (ps_cons rfl (ps_cons rfl (ps_cons rfl (ps_cons rfl (ps_cons rfl (ps_cons rfl (ps_cons rfl (ps_cons rfl (ps_cons rfl ps_nil))))))))))
def pInv (a b : Int) (g : Int × Int × Int) : Prop := -1 ≤ g.1 ∧ g.1 ≤ bl a - bl b ∧ At a b g.1 g.2.1 g.2.2
noncomputable def pG (a b : Int) (g : Int × Int × Int) : St := pSt a b g.1 g.2.1 g.2.2
theorem j4 {n : Int} (h : 0 ≤ n) (h2 : n ≤ 254) : n / 64 = 0 ∨ n / 64 = 1 ∨ n / 64 = 2 ∨ n / 64 = 3 := by omega
theorem at_end {a b n x q : Int} (h : At a b n x q) (hn : n < 0) : x = a % b ∧ q = a / b := by
  unfold At at h
  rw [show (n + 1).toNat = 0 by omega] at h
  simpa using h
theorem p_step {a b : Int} (ha : 0 ≤ a ∧ a < HH) (hb : 0 < b ∧ b < HH) (g : Int × Int × Int) (hg : pInv a b g) :
    StepTo P QP 6 22 pRest (pG a b g) fun o S1 => (o = .goto 0 ∧ ∃ g', pInv a b g' ∧ (g'.1 + 1).toNat < (g.1 + 1).toNat ∧ Keeps S1 (pG a b g')) ∨ (o = .normal ∧ Keeps S1 (pFin a b (a % b) (a / b))) := by
  obtain ⟨n, x, q⟩ := g
  obtain ⟨h1, h2, h3⟩ := hg
  by_cases hn : n < 0
  · obtain ⟨rfl, rfl⟩ := at_end h3 hn
    exact step_run (runX a b n _ _ 0 _ _) (okX hn) rfl fun S1 hk => .inr ⟨rfl, hk⟩
  · have hn' : 0 ≤ n ∧ n ≤ bl a - bl b := ⟨by omega, h2⟩
    obtain ⟨_, _, _, g4, _⟩ := at_x ha hb hn' h3
    by_cases h : b * 2 ^ n.toNat ≤ x
    · have i := (at_a ha hb hn' h3 h).1
      have fin : ∀ S1, Keeps S1 (pSt a b (n - 1) (x - b * 2 ^ n.toNat) (q + 2 ^ n.toNat)) → (Out.goto 0 = .goto 0 ∧ ∃ g', pInv a b g' ∧ (g'.1 + 1).toNat < (n + 1).toNat ∧ Keeps S1 (pG a b g')) ∨ (Out.goto 0 = .normal ∧ Keeps S1 (pFin a b (a % b) (a / b))) :=
        fun S1 hk => .inl ⟨rfl, (n - 1, x - b * 2 ^ n.toNat, q + 2 ^ n.toNat), ⟨by show -1 ≤ n - 1; omega, by show n - 1 ≤ _; omega, i⟩, by show (n - 1 + 1).toNat < (n + 1).toNat; omega, hk⟩
      rcases j4 hn'.1 g4 with hj | hj | hj | hj
      · exact step_run (runA0 a b n x q _ _ _) (okA0 ha hb hn' h3 hj h) rfl fin
      · exact step_run (runA1 a b n x q _ _ _) (okA1 ha hb hn' h3 hj h) rfl fin
      · exact step_run (runA2 a b n x q _ _ _) (okA2 ha hb hn' h3 hj h) rfl fin
      · exact step_run (runA3 a b n x q _ _ _) (okA3 ha hb hn' h3 hj h) rfl fin
    · have i := at_b ha hb hn' h3 h
      exact step_run (runB a b n x q _ _ _) (okB ha hb hn' h3 h) rfl fun S1 hk => .inl ⟨rfl, (n - 1, x, q), ⟨by show -1 ≤ n - 1; omega, by show n - 1 ≤ _; omega, i⟩, by show (n - 1 + 1).toNat < (n + 1).toNat; omega, hk⟩
theorem at_begin {a b : Int} (ha : 0 ≤ a ∧ a < HH) (hb : 0 < b ∧ b < HH) : n0 a b = bl a - bl b ∧ At a b (n0 a b) a 0 ∧ (n0 a b < 0 → a = a % b ∧ 0 = a / b) := by
  have e1 : tI (W a) % MM = a := by rw [tI_in (by unfold InR; omega), Int.emod_eq_of_lt ha.1 (by simp only [MM, HH] at *; omega)]
  have e2 : tI (W b) % MM = b := by rw [tI_in (by unfold InR; omega), Int.emod_eq_of_lt (by omega) (by simp only [MM, HH] at *; omega)]
  have l1 := bl_255 ha.1 ha.2
  have l2 := bl_255 (Int.le_of_lt hb.1) hb.2
  have l3 := bl_nonneg a
  have l4 := bl_nonneg b
  have e : n0 a b = bl a - bl b := by unfold n0; rw [e1, e2, wrap_i64_in (by omega) (by omega)]
  refine ⟨e, ?_, fun hlt => ?_⟩
  · rw [e]
    have hlt : a < b * 2 ^ (bl a - bl b + 1).toNat := by
      by_cases hn : 0 ≤ bl a - bl b
      · rw [show (bl a - bl b + 1).toNat = (bl a - bl b).toNat + 1 by omega]
        exact reach ha.1 hb.1 hn
      · rw [show (bl a - bl b + 1).toNat = 0 by omega]
        have := reach0 ha.1 hb.1 (by omega)
        simpa using this
    refine ⟨(Int.emod_eq_of_lt ha.1 hlt).symm, ?_⟩
    rw [Int.ediv_eq_zero_of_lt ha.1 hlt, Int.zero_mul]
  · rw [e] at hlt
    have := reach0 ha.1 hb.1 hlt
    exact ⟨(Int.emod_eq_of_lt ha.1 this).symm, (Int.ediv_eq_zero_of_lt ha.1 this).symm⟩
theorem p_step0 {a b : Int} (ha : 0 ≤ a ∧ a < HH) (hb : 0 < b ∧ b < HH) :
    StepTo P QP 6 22 pBody (pSt0 a b) fun o S1 => (o = .goto 0 ∧ ∃ g', pInv a b g' ∧ Keeps S1 (pG a b g')) ∨ (o = .normal ∧ Keeps S1 (pFin a b (a % b) (a / b))) := by
  obtain ⟨e, h3, hlast⟩ := at_begin ha hb
  have pp : ∀ {l : List Prop}, (∀ p ∈ l, p) → ∀ p ∈ P1 [W a] :: P1 [W b] :: l, p := fun h => ps_cons (P1_W _) (ps_cons (P1_W _) h)
  by_cases hn : n0 a b < 0
  · obtain ⟨g1, g2⟩ := hlast hn
    have := step_run (iniX a b 0 a 0) (pp (okX hn)) rfl (good := fun o S1 => (o = .goto 0 ∧ ∃ g', pInv a b g' ∧ Keeps S1 (pG a b g')) ∨ (o = .normal ∧ Keeps S1 (pFin a b (a % b) (a / b)))) fun S1 hk => .inr ⟨rfl, by rw [← g1, ← g2]; exact hk⟩
    exact this
  · have hn' : 0 ≤ n0 a b ∧ n0 a b ≤ bl a - bl b := ⟨by omega, by omega⟩
    obtain ⟨_, _, _, g4, _⟩ := at_x ha hb hn' h3
    by_cases h : b * 2 ^ (n0 a b).toNat ≤ a
    · have i := (at_a ha hb hn' h3 h).1
      have fin : ∀ S1, Keeps S1 (pSt a b (n0 a b - 1) (a - b * 2 ^ (n0 a b).toNat) (0 + 2 ^ (n0 a b).toNat)) → (Out.goto 0 = .goto 0 ∧ ∃ g', pInv a b g' ∧ Keeps S1 (pG a b g')) ∨ (Out.goto 0 = .normal ∧ Keeps S1 (pFin a b (a % b) (a / b))) :=
        fun S1 hk => .inl ⟨rfl, (n0 a b - 1, a - b * 2 ^ (n0 a b).toNat, 0 + 2 ^ (n0 a b).toNat), ⟨by show -1 ≤ n0 a b - 1; omega, by show n0 a b - 1 ≤ _; omega, i⟩, hk⟩
      rcases j4 hn'.1 g4 with hj | hj | hj | hj
      · exact step_run (iniA0 a b _ _ _) (pp (okA0 ha hb hn' h3 hj h)) rfl fin
      · exact step_run (iniA1 a b _ _ _) (pp (okA1 ha hb hn' h3 hj h)) rfl fin
      · exact step_run (iniA2 a b _ _ _) (pp (okA2 ha hb hn' h3 hj h)) rfl fin
      · exact step_run (iniA3 a b _ _ _) (pp (okA3 ha hb hn' h3 hj h)) rfl fin
    · have i := at_b ha hb hn' h3 h
      exact step_run (iniB a b _ _ _) (pp (okB ha hb hn' h3 h)) rfl fun S1 hk => .inl ⟨rfl, (n0 a b - 1, a, 0), ⟨by show -1 ≤ n0 a b - 1; omega, by show n0 a b - 1 ≤ _; omega, i⟩, hk⟩
noncomputable def pLoop (a b : Int) (ha : 0 ≤ a ∧ a < HH) (hb : 0 < b ∧ b < HH) : CodeC P :=
  scopeC mo QP (by rfl) 6 22 pBody pRest 0 (by kernel_rfl) [12, 8, 7, 3, 2, 1, 0] (pSt0 a b) (pG a b) (pInv a b) (fun g => (g.1 + 1).toNat) .normal (pFin a b (a % b) (a / b)) (fun _ => by simp) rfl (fun _ => rfl) rfl (by kernel_rfl) (fun _ => by kernel_rfl) (by kernel_rfl) [] rfl (fun _ => rfl) rfl
    (p_step0 ha hb) (p_step ha hb)
noncomputable def QL (a b : Int) (ha : 0 ≤ a ∧ a < HH) (hb : 0 < b ∧ b < HH) : Env P := ⟨⟨[], []⟩, [pLoop a b ha hb], 10, []⟩
theorem plain_run (a b : Int) (ha : 0 ≤ a ∧ a < HH) (hb : 0 < b ∧ b < HH) : runF P (QL a b ha hb) 2 71 [W a, W b] (.lit :: (.n 0 :: [])) =
  some (.tuple #[W (a / b), W (a % b)], [Code.scope pBody = innerOf P 90 0, (.yld 12 : SV) = .yld 12, (.ptr 7 0 : SV) = .ptr 7 0, (.ptr 8 0 : SV) = .ptr 8 0, (W b : Value) = W b, (W a : Value) = W a, (W 0 : Value) = W 0, (W 0 : Value) = W 0, (W b : Value) = W b, (W a : Value) = W a, pRec a b = pRec a b]) := by kernel_rfl
def plainP : List Value → Prop
  | [x, y] => IsW x ∧ IsW y ∧ 0 ≤ tI x ∧ 0 < tI y
  | _ => False
def plainV : List Value → Value
  | [x, y] => .tuple #[W (tI x / tI y), W (tI x % tI y)]
  | _ => undef
theorem isW_in {x : Value} (h : IsW x) : x = W (tI x) ∧ InR (tI x) := by
  obtain ⟨n, rfl⟩ := h
  rw [tI_W]
  exact ⟨(W_congr (bm_mod n)).symm, bm_range n⟩
theorem plain_gives (args : List Value) (h : plainP args) : Gives P 71 args.toArray (plainV args) := by
  unfold plainP at h
  split at h
  · rename_i x y
    obtain ⟨hx, hy, h1, h2⟩ := h
    obtain ⟨ex, rx⟩ := isW_in hx
    obtain ⟨ey, ry⟩ := isW_in hy
    have := gives_of_run (u := .tuple #[W (tI x / tI y), W (tI x % tI y)]) mo (plain_run (tI x) (tI y) ⟨h1, rx.2⟩ ⟨h2, ry.2⟩) (ps_cons (by kernel_rfl) (ps_cons rfl (ps_cons rfl (ps_cons rfl (ps_cons rfl (ps_cons rfl (ps_cons rfl (ps_cons rfl (ps_cons rfl (ps_cons rfl (ps_cons rfl ps_nil))))))))))) rfl
    rw [← ex, ← ey] at this
    exact this
  · exact h.elim
noncomputable def plain : Ctr P := ⟨71, plainP, plainV, plain_gives⟩
end Go.Qt
