/-
  A symbolic executor for the model's code, third part: equality, operations as programs that read.
-/
import Derived.Test.YtcddfemcjmoolaaSxB
namespace Go.Sx
open Go Go.RowKit

/-! ### '==' on values without addresses -/
def eqItems (P : Program) (f : Value → Value → Option Bool) (e : TypeId) (c : Nat) (xs ys : Array Value) : List Nat → Option Bool
  | [] => some true
  | [j] => match pureRun P (part e xs (j * c)), pureRun P (part e ys (j * c)) with
    | some a, some b => f a b
    | _, _ => none
  | j :: r => match pureRun P (part e xs (j * c)), pureRun P (part e ys (j * c)) with
    | some a, some b => match f a b, eqItems P f e c xs ys r with
      | some p, some q => some (p && q)
      | _, _ => none
    | _, _ => none

def eqFlds (P : Program) (f : TypeId → Value → Value → Option Bool) (xs ys : Array Value) : List Field → Option Bool
  | [] => some true
  | [fd] => bif fd.name != "_" then
      match pureRun P (part fd.type xs fd.offset), pureRun P (part fd.type ys fd.offset) with
      | some a, some b => f fd.type a b
      | _, _ => none
    else some true
  | fd :: r => bif fd.name != "_" then
      match pureRun P (part fd.type xs fd.offset), pureRun P (part fd.type ys fd.offset) with
      | some a, some b => match f fd.type a b, eqFlds P f xs ys r with
        | some p, some q => some (p && q)
        | _, _ => none
      | _, _ => none
    else eqFlds P f xs ys r

def eqv (P : Program) : Nat → TypeId → Value → Value → Option Bool
  | 0, _, _, _ => none
  | d + 1, t, x, y => match P.underlying t with
    | some .bool => match x, y with
      | .bool a, .bool b => some (a == b)
      | _, _ => none
    | some (.int _) => match x, y with
      | .int k a, .int k' b => bif decide (k = k') then some (a == b) else none
      | _, _ => none
    | some .string => match x, y with
      | .string a, .string b => some (a == b)
      | _, _ => none
    | some (.array n e) => match x, y with
      | .agg xs, .agg ys => match P.info? e with
        | some _ => eqItems P (fun a b => eqv P d e a b) e (P.cellsOf e) xs ys (List.range n)
        | none => none
      | _, _ => none
    | some (.struct fs) => match x, y with
      | .agg xs, .agg ys => bif P.stoodInHeld t then none else eqFlds P (fun u a b => eqv P d u a b) xs ys fs.toList
      | _, _ => none
    | _ => none

section
variable {P : Program} {W : World}

theorem eqItems_run {d : Nat} {e : TypeId} {c : Nat} {xs ys : Array Value} {f : Value → Value → Option Bool} (hf : ∀ a b r, f a b = some r → (Op.equalIn d e a b).run P W = .ok r W) :
    ∀ {l : List Nat} {r : Bool}, eqItems P f e c xs ys l = some r → (Op.eqItems d e c xs ys l).run P W = .ok r W
  | [], r, h => by simp only [eqItems, Option.some.injEq] at h; subst h; rfl
  | [j], r, h => by
    simp only [eqItems] at h
    split at h
    · rename_i a b ha hb
      simp only [Op.eqItems, Sem.run_bind, pureRun_run ha W, pureRun_run hb W, Result.andThen_ok, hf a b r h]
      cases r <;> rfl
    · cases h
  | j :: j' :: l, r, h => by
    simp only [eqItems] at h
    split at h
    · rename_i a b ha hb
      split at h
      · rename_i p q hp hq
        simp only [Option.some.injEq] at h
        subst h
        have ih := eqItems_run hf (l := j' :: l) hq
        rw [Op.eqItems]
        simp only [Sem.run_bind, pureRun_run ha W, pureRun_run hb W, Result.andThen_ok, hf a b p hp]
        cases p
        · rfl
        · simpa using ih
      · cases h
    · cases h

theorem eqFlds_run {d : Nat} {xs ys : Array Value} {f : TypeId → Value → Value → Option Bool} (hf : ∀ u a b r, f u a b = some r → (Op.equalIn d u a b).run P W = .ok r W) :
    ∀ {l : List Field} {r : Bool}, eqFlds P f xs ys l = some r → (Op.eqFields d xs ys l).run P W = .ok r W
  | [], r, h => by simp only [eqFlds, Option.some.injEq] at h; subst h; rfl
  | [fd], r, h => by
    simp only [eqFlds] at h
    cases hn : (fd.name != "_") with
    | false =>
      rw [hn] at h
      simp only [cond_false, Option.some.injEq] at h
      subst h
      have : fd.name = "_" := by simpa using hn
      simp [Op.eqFields, this]
    | true =>
      rw [hn] at h
      simp only [cond_true] at h
      have hne : fd.name ≠ "_" := by simpa using hn
      split at h
      · rename_i a b ha hb
        simp only [Op.eqFields, hne, ne_eq, not_false_eq_true, if_true, Sem.run_bind, pureRun_run ha W, pureRun_run hb W, Result.andThen_ok, hf _ a b r h]
        cases r <;> rfl
      · cases h
  | fd :: fd' :: l, r, h => by
    simp only [eqFlds] at h
    cases hn : (fd.name != "_") with
    | false =>
      rw [hn] at h
      simp only [cond_false] at h
      have : fd.name = "_" := by simpa using hn
      have ih := eqFlds_run hf (l := fd' :: l) h
      rw [Op.eqFields]
      simp only [this, ne_eq, not_true_eq_false, if_false]
      exact ih
    | true =>
      rw [hn] at h
      simp only [cond_true] at h
      have hne : fd.name ≠ "_" := by simpa using hn
      split at h
      · rename_i a b ha hb
        split at h
        · rename_i p q hp hq
          simp only [Option.some.injEq] at h
          subst h
          have ih := eqFlds_run hf (l := fd' :: l) hq
          rw [Op.eqFields]
          simp only [hne, ne_eq, not_false_eq_true, if_true, Sem.run_bind, pureRun_run ha W, pureRun_run hb W, Result.andThen_ok, hf _ a b p hp]
          cases p
          · rfl
          · simpa using ih
        · cases h
      · cases h

theorem eqv_run : ∀ {d : Nat} {t : TypeId} {x y : Value} {r : Bool}, eqv P d t x y = some r → (Op.equalIn d t x y).run P W = .ok r W
  | 0, _, _, _, _, h => by simp [eqv] at h
  | d + 1, t, x, y, r, h => by
    unfold eqv at h
    split at h
    · rename_i hu
      split at h
      · simp only [Option.some.injEq] at h; subst h
        simp [Op.equalIn, run_underlying hu]
      · cases h
    · rename_i k0 hu
      split at h
      · rename_i k a k' b
        cases hk : decide (k = k') with
        | false => rw [hk] at h; cases h
        | true =>
          rw [hk] at h
          simp only [cond_true, Option.some.injEq] at h; subst h
          have : k = k' := of_decide_eq_true hk
          subst this
          simp [Op.equalIn, run_underlying hu]
      · cases h
    · rename_i hu
      split at h
      · simp only [Option.some.injEq] at h; subst h
        simp [Op.equalIn, run_underlying hu]
      · cases h
    · rename_i n e hu
      split at h
      · rename_i xs ys
        split at h
        · rename_i i hi
          rw [run_equalIn_array W d xs ys hu hi]
          exact eqItems_run (fun a b r h => eqv_run h) h
        · cases h
      · cases h
    · rename_i fs hu
      split at h
      · rename_i xs ys
        cases hs : P.stoodInHeld t with
        | true => rw [hs] at h; cases h
        | false =>
          rw [hs] at h
          simp only [cond_false] at h
          have hf : P.fieldsOf t = fs := by simp [Program.fieldsOf, hu]
          rw [run_equalIn_struct W d t xs ys (by rw [hf, hu]) hs, hf]
          exact eqFlds_run (fun u a b r h => eqv_run h) h
      · cases h
    · cases h
end

/-! ### Contracts of functions that only compute -/
/-- What a call comes to, however it stands: it is 'v', and what was there is as it was. -/
def Gives (P : Program) (f : FuncId) (args : Array Value) (v : Value) : Prop :=
  ∀ (F : Fence) (n : Nat) (o : Oper) (a : Act) (W : World) (K : Act → World → Prop) (Q : Exit → Act → World → Prop), F.fn = (fun _ => True) → F.depth = none → F.alive = false →
    (∀ W', Below W.heap.size W W' → K (a.put o.dst v) W') → o.uponIn F n P a K Q ((callFunc f args).run P W)

structure Ctr (P : Program) where
  f : FuncId
  pre : List Value → Prop
  val : List Value → Value
  sound : ∀ args, pre args → Gives P f args.toArray (val args)

def findC {P : Program} : List (Ctr P) → Nat → Option (Ctr P)
  | [], _ => none
  | c :: r, f => bif Nat.beq c.f f then some c else findC r f

theorem findC_f {P : Program} : ∀ {l : List (Ctr P)} {f : Nat} {c : Ctr P}, findC l f = some c → c.f = f
  | [], _, _, h => by cases h
  | c :: r, f, c', h => by
    simp only [findC] at h
    cases hb : Nat.beq c.f f with
    | true => rw [hb] at h; simp only [cond_true, Option.some.injEq] at h; subst h; exact Nat.eq_of_beq_eq_true hb
    | false => rw [hb] at h; exact findC_f h

/-! ### One operation -/
def isConst : Operand → Bool
  | .const _ => true
  | _ => false

def rdP {α : Type} : Option α → Rd α
  | some a => .ret a
  | none => .stop

def capsOf : List Operand → Rd (List (Nat × Nat))
  | [] => .ret []
  | x :: r => (rdX x).bind fun
    | .ptr b o => (capsOf r).bind fun l => .ret ((b, o) :: l)
    | _ => .stop

def placeAt (ix : Value) (len : Nat) (dec : Dec) : Option (Nat × List Prop) :=
  match ix with
  | .int _ i => match dec with
    | .n j => bif Nat.blt j len then some (j, [i = (j : Int)]) else none
    | _ => match i with
      | .ofNat j => bif Nat.blt j len then some (j, []) else none
      | _ => none
  | _ => none

def isAddrFree : Value → Bool
  | .bool _ | .int _ _ | .string _ | .float _ _ => true
  | _ => false

def plainV (P : Program) (op : BinOp) (t : TypeId) (x y : Operand) (a b : Value) : Option Res :=
  match pureRun P (do eqGuard op t x y a b; binOp op t a b) with
  | some v => some ⟨.v v, [], []⟩
  | none => none

def eqV (P : Program) (op : BinOp) (t : TypeId) (x y : Operand) (a b : Value) : Option Res :=
  match pureRun P (eqGuard op t x y a b), a, eqv P Op.maxDepth t a b with
  | some (), .agg _, some r => match op with
    | .eql => some ⟨.v (.bool r), [], []⟩
    | .neq => some ⟨.v (.bool (!r)), [], []⟩
    | _ => none
  | _, _, _ => none

def shV (op : BinOp) (a b : Value) : Option Res :=
  match a, b with
  | .int k m, .int _ c => match op with
    | .shl => some ⟨.v (.int k (k.wrap (m * 2 ^ (min c.toNat k.bits)))), [], [0 ≤ c]⟩
    | .shr => some ⟨.v (.int k (m.fdiv (2 ^ (min c.toNat k.bits)))), [], [0 ≤ c]⟩
    | _ => none
  | _, _ => none

def divV (op : BinOp) (a b : Value) : Option Res :=
  match a, b with
  | .int k m, .int k' c => bif decide (k = k') then (match op with
    | .quo => some ⟨.v (.int k (k.wrap (m.tdiv c))), [], [c ≠ 0]⟩
    | .rem => some ⟨.v (.int k (m.tmod c)), [], [c ≠ 0]⟩
    | _ => none) else none
  | _, _ => none

def binV (P : Program) (op : BinOp) (t : TypeId) (x y : Operand) (a b : Value) : Option Res :=
  match op with
  | .eql => bif isAddrFree a then plainV P .eql t x y a b else eqV P .eql t x y a b
  | .neq => bif isAddrFree a then plainV P .neq t x y a b else eqV P .neq t x y a b
  | .shl => bif isConst y then plainV P .shl t x y a b else shV .shl a b
  | .shr => bif isConst y then plainV P .shr t x y a b else shV .shr a b
  | .quo => bif isConst y then plainV P .quo t x y a b else divV .quo a b
  | .rem => bif isConst y then plainV P .rem t x y a b else divV .rem a b
  | op => plainV P op t x y a b

def fallback (P : Program) (o : Oper) : Rd Res :=
  (rdVs o.op.operands.toList).bind fun vs => match pureRun P (execOp (rho o.op.operands.toList vs) o) with
    | some (.value v) => .ret ⟨.v v, [], []⟩
    | _ => .stop

def rdOpt : Option Operand → Rd (Option Value)
  | none => .ret none
  | some x => (rdV x).bind fun v => .ret (some v)

/-- The cells of a slice's literal. -/
def bsCells (t : TypeId) (len : Nat) (parts : Array (Nat × Value)) : Sem (TypeId × Array Value) := do
  let .slice elem ← underlying t | stuck "buildSlice: slice type expected"
  let size ← sizeOf elem
  if len * size > 2 ^ 24 then unsupported (.resourceLimit "buildSlice: more than 2^24 cells")
  let zero ← if len * size = 0 then pure #[] else do pure (← zeroValue elem).cells
  let some cells := Instr.fill (fun i => some (i * size, size)) ((Array.range (len * size)).map (zero[· % zero.size]!)) parts.toList
    | stuck "buildSlice: a part of the wrong size"
  pure (elem, cells)

def rdParts : List (Nat × Operand) → Rd (List (Nat × Value))
  | [] => .ret []
  | (i, x) :: r => (rdV x).bind fun v => (rdParts r).bind fun l => .ret ((i, v) :: l)

def isSliceT (P : Program) (t : TypeId) : Bool :=
  match P.underlying t with
  | some (.slice _) => true
  | _ => false

def vop (P : Program) (cts : List (Ctr P)) (o : Oper) (nm : Nat) (dec : Dec) : Rd Res :=
  match o.op with
  | .move x => (rdX x).bind fun y => .ret ⟨y, [], []⟩
  | .assign x => (rdX x).bind fun y => .ret ⟨y, [], []⟩
  | .pick c a b => (rdV c).bind fun
    | .bool true => (rdX a).bind fun y => .ret ⟨y, [], []⟩
    | .bool false => (rdX b).bind fun y => .ret ⟨y, [], []⟩
    | _ => .stop
  | .alloc e => match P.info? e with
    | some i => match i.zero with
      | some z => bif Nat.blt nm gbase then .get (.u nm) fun
        | none => .ret ⟨.ptr nm 0, [.u nm, .b nm (.whole z) e], []⟩
        | some _ => .stop
        else .stop
      | none => .stop
    | none => .stop
  | .box e x => (rdX x).bind fun y => bif Nat.blt nm gbase then .get (.u nm) fun
      | none => .ret ⟨.ptr nm 0, [.u nm, .b nm (ctOf y) e], []⟩
      | some _ => .stop
      else .stop
  | .load t a => (rdX a).bind fun
    | .ptr b off => (rdB b).bind fun (c, _) => (rdP (loadC P t c off)).bind fun y => .ret ⟨y, [], []⟩
    | _ => .stop
  | .store t a x => (rdX a).bind fun
    | .ptr b off => (rdX x).bind fun y => (rdB b).bind fun (c, ty) => (rdP (storeC P t c off y)).bind fun c' => .ret ⟨.v undef, [.b b c' ty], []⟩
    | _ => .stop
  | .indexAddr t x ix => (rdX x).bind fun
    | .ptr b off => (rdV ix).bind fun i => match P.underlying t with
      | some (.array len e) => match P.info? e with
        | some inf => (rdP (placeAt i len dec)).bind fun (j, ps) => .ret ⟨.ptr b (off + j * inf.size), [], ps⟩
        | none => .stop
      | _ => .stop
    | .sl b off len _ => (rdV ix).bind fun i => match P.underlying t with
      | some (.slice e) => match P.info? e with
        | some inf => (rdP (placeAt i len dec)).bind fun (j, ps) => .ret ⟨.ptr b (off + j * inf.size), [], ps⟩
        | none => .stop
      | _ => .stop
    | _ => .stop
  | .slice t x lo hi mx => (rdX x).bind fun
    | .ptr b off => (rdOpt lo).bind fun vl => (rdOpt hi).bind fun vh => (rdOpt mx).bind fun vm => match P.underlying t with
      | some (.array n e) => match P.info? e with
        | some inf => (rdP (pureRun P (Instr.sliceBounds false n n vl vh vm))).bind fun (l, h, m) =>
          bif Nat.beq m l then .stop else .ret ⟨.sl b (off + l * inf.size) (h - l) (m - l), [], []⟩
        | none => .stop
      | _ => .stop
    | .sl b off len cap => (rdOpt lo).bind fun vl => (rdOpt hi).bind fun vh => (rdOpt mx).bind fun vm => match P.underlying t with
      | some (.slice e) => match P.info? e with
        | some inf => (rdP (pureRun P (Instr.sliceBounds true len cap vl vh vm))).bind fun (l, h, m) =>
          .ret ⟨.sl b (bif Nat.beq m l then off else off + l * inf.size) (h - l) (m - l), [], []⟩
        | none => .stop
      | _ => .stop
    | _ => fallback P o
  | .sliceToArrayPointer t x => (rdX x).bind fun
    | .sl b off len _ => match P.underlying t with
      | some (.array n _) => bif Nat.ble n len then .ret ⟨.ptr b off, [], []⟩ else .stop
      | _ => .stop
    | _ => .stop
  | .buildSlice t len parts => (rdParts parts.toList).bind fun ps => (rdP (pureRun P (bsCells t len ps.toArray))).bind fun (e, cells) =>
    bif Nat.blt nm gbase then .get (.u nm) fun
      | none => .ret ⟨.sl nm 0 len len, [.u nm, .b nm (.parts (cells.toList.map .v)) e], []⟩
      | some _ => .stop
      else .stop
  | .fieldAddr s x f => (rdX x).bind fun
    | .ptr b off => match P.underlying s with
      | some (.struct fs) => match fs[f]? with
        | some fd => match P.info? fd.type with
          | some inf => bif Nat.beq inf.size 0 then .stop else .ret ⟨.ptr b (off + fd.offset), [], []⟩
          | none => .stop
        | none => .stop
      | _ => .stop
    | _ => .stop
  | .makeFunc (.func f) first caps => match first.toList with
    | [] => (capsOf caps.toList).bind fun l => .ret ⟨.fn f l, [], []⟩
    | _ => .stop
  | .binOp op t x y _ => (rdV x).bind fun a => (rdV y).bind fun b => rdP (binV P op t x y a b)
  | .call c => match c.callee with
    | .value f => (rdX f).bind fun
      | .fn g [] => (rdVs c.args.toList).bind fun vs => (rdP (findC cts g)).bind fun ct => .ret ⟨.v (ct.val vs), [], [ct.pre vs]⟩
      | _ => .stop
    | .builtin b => match b, c.args.toList, c.argTypes.toList with
      | .len, [x], [t] => bif isSliceT P t then (rdX x).bind fun
          | .sl _ _ n _ => .ret ⟨.v (.int .i64 n), [], []⟩
          | _ => fallback P o
        else fallback P o
      | _, _, _ => fallback P o
    | .invoke _ _ => .stop
  | .select _ _ => .stop
  | _ => fallback P o

end Go.Sx
