/-
  Intervals: what the documents say of them, with no program in sight.
-/
import Derived.Test.YtjfcndiodbaejaaDoorQuotK
set_option maxRecDepth 100000
namespace Go.Iv
open Go Go.RowKit Go.Sx Go.Nm Go.Wd Go.Qt

structure Iv where
  lo : Int
  hi : Int
  bad : Bool
  deriving DecidableEq
@[reducible] def I (a : Iv) : Value := .agg #[.int .i64 a.lo, .int .i64 a.hi, .bool a.bad]
def rd : Value → Iv
  | .agg ⟨[.int _ x, .int _ y, .bool b]⟩ => ⟨x, y, b⟩
  | _ => ⟨0, 0, true⟩
def MX : Int := 1152921504606846976
def fine (a : Iv) : Bool := !a.bad && (decide (a.lo ≥ -1152921504606846976) && (decide (a.lo ≤ a.hi) && decide (a.hi ≤ 1152921504606846976)))
def fineL : List Iv → Bool
  | [] => true
  | a :: l => fine a && fineL l
def rowL : Nat → (Nat → Value) → List Iv
  | 0, _ => []
  | n + 1, el => rd (el 0) :: rowL n (fun j => el (j + 1))
def dvL : DV → List Iv
  | .row q => rowL q.n q.el
  | .v _ => []
def bd : Iv := ⟨0, 0, true⟩
def told (a : Iv) : Iv := bif fine a then a else bd
def addI (a b : Iv) : Iv := bif fineL [a, b] then told ⟨a.lo + b.lo, a.hi + b.hi, false⟩ else bd
def subI (a b : Iv) : Iv := bif fineL [a, b] then told ⟨a.lo - b.hi, a.hi - b.lo, false⟩ else bd
def negI (a : Iv) : Iv := bif fineL [a] then told ⟨-a.hi, -a.lo, false⟩ else bd
def pointI (n : Int) : Iv := told ⟨n, n, false⟩
def ofI (n : Int) : Iv := bif decide (-1073741824 ≤ n) && decide (n ≤ 1073741824) then ⟨n * 1073741824, n * 1073741824, false⟩ else bd
def mn (a b : Int) : Int := if b < a then b else a
def mx (a b : Int) : Int := if b > a then b else a
def makeI (a b : Int) : Iv := told ⟨mn a b, mx a b, false⟩
def widthI (a : Iv) : Int := bif fineL [a] then a.hi - a.lo else -1
def byOk (x n d : Int) : Bool := decide (d ≠ 0) && (decide (-1152921504606846976 ≤ fq (x * n) d) && decide (cq (x * n) d ≤ 1152921504606846976))
def byLo (x n d : Int) : Int := if i64B (qv fq (x * n) d) then qv fq (x * n) d else 0
def byHi (x n d : Int) : Int := if i64B (qv cq (x * n) d) then qv cq (x * n) d else 0
/-- The widest ends of products. -/
def wide2 (l0 h0 l1 h1 : Int) : Iv := ⟨mn (mn l0 l0) l1, mx (mx h0 h0) h1, false⟩
def wide4 (l0 h0 l1 h1 l2 h2 l3 h3 : Int) : Iv := ⟨mn (mn (mn (mn l0 l0) l1) l2) l3, mx (mx (mx (mx h0 h0) h1) h2) h3, false⟩
def mulR (a b : Iv) : Iv := wide4 (byLo a.lo b.lo 1073741824) (byHi a.lo b.lo 1073741824) (byLo a.lo b.hi 1073741824) (byHi a.lo b.hi 1073741824) (byLo a.hi b.lo 1073741824) (byHi a.hi b.lo 1073741824) (byLo a.hi b.hi 1073741824) (byHi a.hi b.hi 1073741824)
def mulI (a b : Iv) : Iv :=
  bif fineL [a, b] && (byOk a.lo b.lo 1073741824 && (byOk a.lo b.hi 1073741824 && (byOk a.hi b.lo 1073741824 && byOk a.hi b.hi 1073741824))) then told (mulR a b) else bd
def partR (a : Iv) (n d : Int) : Iv := wide2 (byLo a.lo n d) (byHi a.lo n d) (byLo a.hi n d) (byHi a.hi n d)
def partI (a : Iv) (n d : Int) : Iv := bif fineL [a] && (byOk a.lo n d && byOk a.hi n d) then told (partR a n d) else bd
def hullF : Iv → List Iv → Iv
  | h, [] => h
  | h, a :: l => hullF ⟨mn h.lo a.lo, mx h.hi a.hi, h.bad⟩ l
def hullI : List Iv → Iv
  | [] => bd
  | a :: l => bif fineL (a :: l) then hullF a l else bd
def meetI (a b : Iv) : Iv := bif fineL [a, b] then told ⟨mx a.lo b.lo, mn a.hi b.hi, false⟩ else bd
def holdsI (a b : Iv) : Bool := fineL [a, b] && (decide (a.lo ≤ b.lo) && decide (b.hi ≤ a.hi))

theorem fine_iff {a : Iv} : fine a = true ↔ a.bad = false ∧ -1152921504606846976 ≤ a.lo ∧ a.lo ≤ a.hi ∧ a.hi ≤ 1152921504606846976 := by
  unfold fine; simp
theorem fine2 {a b : Iv} : fineL [a, b] = true ↔ fine a = true ∧ fine b = true := by
  unfold fineL fineL fineL; simp
theorem fine1 {a : Iv} : fineL [a] = fine a := by
  unfold fineL fineL; simp
theorem told_ok {a : Iv} (h : fine a = true) : told a = a := by unfold told; rw [h]; rfl
theorem told_no {a : Iv} (h : fine a = false) : told a = bd := by unfold told; rw [h]; rfl
theorem iv_eta (a : Iv) : a = ⟨a.lo, a.hi, a.bad⟩ := rfl
theorem rowL_get : ∀ {n : Nat} {el : Nat → Value}, fineL (rowL n el) = true ↔ ∀ j, j < n → fine (rd (el j)) = true
  | 0, _ => ⟨fun _ j h => absurd h (Nat.not_lt_zero j), fun _ => rfl⟩
  | n + 1, el => by
    have ih := rowL_get (n := n) (el := fun j => el (j + 1))
    show (fine (rd (el 0)) && fineL (rowL n fun j => el (j + 1))) = true ↔ _
    rw [Bool.and_eq_true, ih]
    constructor
    · rintro ⟨h1, h2⟩ j hj
      cases j with
      | zero => exact h1
      | succ j => exact h2 j (by omega)
    · intro h
      exact ⟨h 0 (by omega), fun j hj => h (j + 1) (by omega)⟩
end Go.Iv
