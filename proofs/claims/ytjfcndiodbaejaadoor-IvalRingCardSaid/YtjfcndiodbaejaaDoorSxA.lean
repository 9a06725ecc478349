/-
  A symbolic executor for the model's code, first part: values, states, the reader, one operation. Generic in the program.
-/
import Derived.WalkKit
import Derived.OrdersIn
import Derived.LoopNIn
import Derived.ChangeKeysEq
namespace Go.Sx
open Go Go.RowKit

/-- A part of a tuple: a value, or a row. -/
inductive TV where
  | v (x : Value)
  | row (r : Nat)

/-- A symbolic value: a value that bears no address; an address in a named block; a function with captured addresses;
a slice of a named block; a row (a slice whose place is not told); an address in a row; a tuple, or an aggregate, in which rows stand. -/
inductive SV where
  | v (x : Value)
  | ptr (b off : Nat)
  | fn (f : FuncId) (caps : List (Nat × Nat))
  | yld (l : Nat)
  | sl (b off len cap : Nat)
  | row (r : Nat)
  | rp (r j off sz : Nat)
  | mix (t : Bool) (l : List TV)

def TV.sv : TV → SV
  | .v x => .v x
  | .row r => .row r

/-- The package variables that stand as the text lays them: nothing that is run here writes them. -/
def lz : List (Nat × (Value × TypeId)) :=
  (0, (.agg #[.int .u64 0, .int .u64 0, .int .u64 0, .int .u64 9223372036854775808], 41)) ::
  []
def LaidG (W : World) : Prop := ∀ x ∈ lz, ∃ ty, W.heap[x.1]? = some (.cells x.2.1.cells ty)
def lookLz : List (Nat × (Value × TypeId)) → Nat → Option (Value × TypeId)
  | [], _ => none
  | x :: r, g => bif Nat.beq x.1 g then some x.2 else lookLz r g
theorem lookLz_mem : ∀ {l : List (Nat × (Value × TypeId))} {g : Nat} {y : Value × TypeId}, lookLz l g = some y → (g, y) ∈ l
  | [], _, _, h => by cases h
  | x :: r, g, y, h => by
    simp only [lookLz] at h
    cases hb : Nat.beq x.1 g with
    | true =>
      rw [hb] at h
      simp only [cond_true, Option.some.injEq] at h
      have := Nat.eq_of_beq_eq_true hb
      subst this
      subst h
      simp
    | false => rw [hb] at h; exact List.mem_cons_of_mem _ (lookLz_mem h)

/-- Where a row lies; own: who runs here may write it. -/
structure RP where
  own : Bool
  k : Nat
  off : Nat
  n : Nat
  cap : Nat

/-- From names of blocks to blocks, from names of rows to places. -/
structure Ren where
  b : Nat → Option Nat
  r : Nat → Option RP
instance : CoeFun Ren fun _ => Nat → Option Nat := ⟨Ren.b⟩

def adr (β : Ren) (p : Nat × Nat) : Option Value := (β p.1).map fun k => .pointer (some ⟨k, p.2, none⟩)

def adrs (β : Ren) : List (Nat × Nat) → Option (List Value)
  | [] => some []
  | p :: r => match adr β p, adrs β r with
    | some v, some l => some (v :: l)
    | _, _ => none

def denT (β : Ren) : TV → Option Value
  | .v x => some x
  | .row r => (β.r r).map fun p => .slice (some ⟨p.k, p.off, none⟩) p.n p.cap
def denTs (β : Ren) : List TV → Option (List Value)
  | [] => some []
  | x :: r => match denT β x, denTs β r with
    | some v, some l => some (v :: l)
    | _, _ => none

def den (β : Ren) : SV → Option Value
  | .v x => some x
  | .ptr b o => adr β (b, o)
  | .fn f caps => match adrs β caps with
    | some l => some (.func (.func f) #[] l.toArray)
    | none => none
  | .yld l => (β l).map fun k => .func (.yield k) #[] #[]
  | .sl b o n c => (β b).map fun k => .slice (some ⟨k, o, none⟩) n c
  | .row r => (β.r r).map fun p => .slice (some ⟨p.k, p.off, none⟩) p.n p.cap
  | .rp r j o sz => (β.r r).map fun p => .pointer (some ⟨p.k, p.off + (j * sz + o), none⟩)
  | .mix t l => (denTs β l).map fun vs => bif t then .tuple vs.toArray else .agg vs.toArray

def dens (β : Ren) : List SV → Option (List Value)
  | [] => some []
  | x :: r => match den β x, dens β r with
    | some v, some l => some (v :: l)
    | _, _ => none

/-- What a block holds. -/
inductive Ct where
  | whole (x : Value)
  | parts (l : List SV)

def denCt (β : Ren) : Ct → Option (Array Value)
  | .whole x => some x.cells
  | .parts l => match dens β l with
    | some vs => some vs.toArray
    | none => none

def look {α : Type} : List (Nat × α) → Nat → Option α
  | [], _ => none
  | (j, x) :: r, i => bif Nat.beq j i then some x else look r i

/-- The record of a range over a function. -/
structure LoopS where
  st : LoopState
  pend : Option Code
  ts : List (Nat × SV)
  N : Nat
  params : List Tmp
  asg : Code
  body : Code

/-- What a row holds: so many elements of a type of so many cells. -/
structure RowS where
  ty : TypeId
  sz : Nat
  n : Nat
  el : Nat → Value
  own : Bool

/-- Temporaries; blocks of cells; records of loops; which names are taken; rows (none: gone). -/
structure St where
  ts : List (Nat × SV)
  bs : List (Nat × (Ct × TypeId))
  ls : List (Nat × LoopS)
  us : List Nat
  rs : List (Nat × Option RowS)

def memN (i : Nat) : List Nat → Bool
  | [] => false
  | j :: r => bif Nat.beq j i then true else memN i r

inductive Loc where
  | t (i : Nat)
  | b (i : Nat)
  | l (i : Nat)
  | u (i : Nat)
  | r (i : Nat)

def Loc.eq : Loc → Loc → Bool
  | .t i, .t j => Nat.beq i j
  | .b i, .b j => Nat.beq i j
  | .l i, .l j => Nat.beq i j
  | .u i, .u j => Nat.beq i j
  | .r i, .r j => Nat.beq i j
  | _, _ => false

inductive C where
  | sv (x : SV)
  | blk (c : Ct) (ty : TypeId)
  | lp (q : LoopS)
  | taken
  | row (q : RowS)

def lookR (l : List (Nat × Option RowS)) (i : Nat) : Option RowS :=
  match look l i with
  | some (some q) => some q
  | _ => none

def St.get (S : St) : Loc → Option C
  | .t i => match look S.ts i with
    | some x => some (.sv x)
    | none => none
  | .b i => match look S.bs i with
    | some (c, ty) => some (.blk c ty)
    | none => none
  | .l i => match look S.ls i with
    | some q => some (.lp q)
    | none => none
  | .u i => bif memN i S.us then some .taken else none
  | .r i => match lookR S.rs i with
    | some q => some (.row q)
    | none => none

inductive Wr where
  | t (i : Nat) (x : SV)
  | b (i : Nat) (c : Ct) (ty : TypeId)
  | u (i : Nat)
  | r (i : Nat) (q : Option RowS)

def Wr.loc : Wr → Loc
  | .t i _ => .t i
  | .b i _ _ => .b i
  | .u i => .u i
  | .r i _ => .r i

def Wr.val : Wr → Option C
  | .t _ x => some (.sv x)
  | .b _ c ty => some (.blk c ty)
  | .u _ => some .taken
  | .r _ q => q.map .row

def St.put (S : St) : Wr → St
  | .t i x => { S with ts := (i, x) :: S.ts }
  | .b i c ty => { S with bs := (i, (c, ty)) :: S.bs }
  | .u i => { S with us := i :: S.us }
  | .r i q => { S with rs := (i, q) :: S.rs }

def St.puts (S : St) : List Wr → St
  | [] => S
  | x :: r => (S.put x).puts r

/-- A program that reads the state. -/
inductive Rd (α : Type) where
  | ret (a : α)
  | get (l : Loc) (k : Option C → Rd α)
  | stop

def Rd.bind {α β : Type} : Rd α → (α → Rd β) → Rd β
  | .ret a, f => f a
  | .get l k, f => .get l fun c => (k c).bind f
  | .stop, _ => .stop

def Rd.run {α : Type} : Rd α → St → Option (α × List Loc)
  | .ret a, _ => some (a, [])
  | .get l k, S => match (k (S.get l)).run S with
    | some (a, rd) => some (a, l :: rd)
    | none => none
  | .stop, _ => none

theorem Rd.run_local {α : Type} {p : Rd α} {S S' : St} : ∀ {a : α} {rd : List Loc}, p.run S = some (a, rd) → (∀ l, l ∈ rd → S'.get l = S.get l) → p.run S' = some (a, rd) := by
  induction p with
  | ret x => intro a rd h _; exact h
  | stop => intro a rd h _; exact h
  | get l k ih =>
    intro a rd h hs
    simp only [Rd.run] at h ⊢
    split at h
    · rename_i a' rd' hr
      simp only [Option.some.injEq, Prod.mk.injEq] at h
      obtain ⟨rfl, rfl⟩ := h
      rw [hs l (by simp), ih _ hr (fun l' hl' => hs l' (by simp [hl']))]
    · cases h

theorem Rd.run_bind {α β : Type} {p : Rd α} {f : α → Rd β} {S : St} : ∀ {b : β} {rd : List Loc}, (p.bind f).run S = some (b, rd) →
    ∃ a rd1 rd2, p.run S = some (a, rd1) ∧ (f a).run S = some (b, rd2) := by
  induction p with
  | ret x => intro b rd h; exact ⟨x, [], rd, rfl, h⟩
  | stop => intro b rd h; cases h
  | get l k ih =>
    intro b rd h
    simp only [Rd.bind, Rd.run] at h
    split at h
    · rename_i b' rd' hr
      simp only [Option.some.injEq, Prod.mk.injEq] at h
      obtain ⟨rfl, rfl⟩ := h
      obtain ⟨a, rd1, rd2, h1, h2⟩ := ih _ hr
      exact ⟨a, l :: rd1, rd2, by simp [Rd.run, h1], h2⟩
    · cases h

/-! ### Reading operands -/
def rdT (t : Nat) : Rd SV := .get (.t t) fun
  | some (.sv x) => .ret x
  | _ => .stop

def gbase : Nat := 1000000000

def rdB (b : Nat) : Rd (Ct × TypeId) := .get (.b b) fun
  | some (.blk c ty) => .ret (c, ty)
  | _ => .stop

def rdR (r : Nat) : Rd RowS := .get (.r r) fun
  | some (.row q) => .ret q
  | _ => .stop

def rdX : Operand → Rd SV
  | .tmp t => rdT t
  | .const c => .ret (.v c)
  | .func f => .ret (.fn f [])
  | .global g => (rdB (gbase + g)).bind fun _ => .ret (.ptr (gbase + g) 0)

/-- An operand that must bear no address. -/
def rdV (x : Operand) : Rd Value := (rdX x).bind fun
  | .v y => .ret y
  | .fn f [] => .ret (.func (.func f) #[] #[])
  | _ => .stop

def rdVs : List Operand → Rd (List Value)
  | [] => .ret []
  | x :: r => (rdV x).bind fun v => (rdVs r).bind fun l => .ret (v :: l)

/-- The values of a list of operands, as a function of operands. -/
def rho : List Operand → List Value → Operand → Value
  | .tmp t :: r, v :: vs, x => match x with
    | .tmp u => bif Nat.beq t u then v else rho r vs x
    | .const c => c
    | .func f => .func (.func f) #[] #[]
    | .global g => .pointer (some ⟨g, 0, none⟩)
  | _ :: r, _ :: vs, x => rho r vs x
  | _, _, x => match x with
    | .tmp _ => undef
    | .const c => c
    | .func f => .func (.func f) #[] #[]
    | .global g => .pointer (some ⟨g, 0, none⟩)

/-- What asks the world for nothing. -/
def pureRun {α : Type} (P : Program) : Sem α → Option α
  | .pure a => some a
  | .program k => pureRun P (k P)
  | .mark _ k => pureRun P k
  | _ => none

theorem pureRun_run {α : Type} {P : Program} {s : Sem α} {a : α} : pureRun P s = some a → ∀ W, s.run P W = .ok a W := by
  induction s with
  | pure x => intro h W; simp only [pureRun, Option.some.injEq] at h; subst h; rfl
  | program k ih => intro h W; exact ih P h W
  | mark m k ih => intro h W; exact ih h W
  | _ => intro h; cases h

end Go.Sx
