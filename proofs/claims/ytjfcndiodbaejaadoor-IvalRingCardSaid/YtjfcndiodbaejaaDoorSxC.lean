/-
  A symbolic executor for the model's code, third part: equality, operations as programs that read.
-/
import Derived.Test.YtjfcndiodbaejaaDoorSxB
namespace Go.Sx
open Go Go.RowKit

/-! ### '==' on values without addresses -/
def eqItems (P : Program) (f : Value → Value → Option Bool) (e : TypeId) (c : Nat) (xs ys : Array Value) : List Nat → Option Bool
  | [] => some true
  | [j] => match pureRun P (part e xs (j * c)), pureRun P (part e ys (j * c)) with
    | some a, some b => f a b
    | _, _ => none
  | j :: r => match pureRun P (part e xs (j * c)), pureRun P (part e ys (j * c)) with
    | some a, some b => match f a b, eqItems P f e c xs ys r with
      | some p, some q => some (p && q)
      | _, _ => none
    | _, _ => none

def eqFlds (P : Program) (f : TypeId → Value → Value → Option Bool) (xs ys : Array Value) : List Field → Option Bool
  | [] => some true
  | [fd] => bif fd.name != "_" then
      match pureRun P (part fd.type xs fd.offset), pureRun P (part fd.type ys fd.offset) with
      | some a, some b => f fd.type a b
      | _, _ => none
    else some true
  | fd :: r => bif fd.name != "_" then
      match pureRun P (part fd.type xs fd.offset), pureRun P (part fd.type ys fd.offset) with
      | some a, some b => match f fd.type a b, eqFlds P f xs ys r with
        | some p, some q => some (p && q)
        | _, _ => none
      | _, _ => none
    else eqFlds P f xs ys r

def eqv (P : Program) : Nat → TypeId → Value → Value → Option Bool
  | 0, _, _, _ => none
  | d + 1, t, x, y => match P.underlying t with
    | some .bool => match x, y with
      | .bool a, .bool b => some (a == b)
      | _, _ => none
    | some (.int _) => match x, y with
      | .int k a, .int k' b => bif decide (k = k') then some (a == b) else none
      | _, _ => none
    | some .string => match x, y with
      | .string a, .string b => some (a == b)
      | _, _ => none
    | some (.array n e) => match x, y with
      | .agg xs, .agg ys => match P.info? e with
        | some _ => eqItems P (fun a b => eqv P d e a b) e (P.cellsOf e) xs ys (List.range n)
        | none => none
      | _, _ => none
    | some (.struct fs) => match x, y with
      | .agg xs, .agg ys => bif P.stoodInHeld t then none else eqFlds P (fun u a b => eqv P d u a b) xs ys fs.toList
      | _, _ => none
    | _ => none

section
variable {P : Program} {W : World}

theorem eqItems_run {d : Nat} {e : TypeId} {c : Nat} {xs ys : Array Value} {f : Value → Value → Option Bool} (hf : ∀ a b r, f a b = some r → (Op.equalIn d e a b).run P W = .ok r W) :
    ∀ {l : List Nat} {r : Bool}, eqItems P f e c xs ys l = some r → (Op.eqItems d e c xs ys l).run P W = .ok r W
  | [], r, h => by simp only [eqItems, Option.some.injEq] at h; subst h; rfl
  | [j], r, h => by
    simp only [eqItems] at h
    split at h
    · rename_i a b ha hb
      simp only [Op.eqItems, Sem.run_bind, pureRun_run ha W, pureRun_run hb W, Result.andThen_ok, hf a b r h]
      cases r <;> rfl
    · cases h
  | j :: j' :: l, r, h => by
    simp only [eqItems] at h
    split at h
    · rename_i a b ha hb
      split at h
      · rename_i p q hp hq
        simp only [Option.some.injEq] at h
        subst h
        have ih := eqItems_run hf (l := j' :: l) hq
        rw [Op.eqItems]
        simp only [Sem.run_bind, pureRun_run ha W, pureRun_run hb W, Result.andThen_ok, hf a b p hp]
        cases p
        · rfl
        · simpa using ih
      · cases h
    · cases h

theorem eqFlds_run {d : Nat} {xs ys : Array Value} {f : TypeId → Value → Value → Option Bool} (hf : ∀ u a b r, f u a b = some r → (Op.equalIn d u a b).run P W = .ok r W) :
    ∀ {l : List Field} {r : Bool}, eqFlds P f xs ys l = some r → (Op.eqFields d xs ys l).run P W = .ok r W
  | [], r, h => by simp only [eqFlds, Option.some.injEq] at h; subst h; rfl
  | [fd], r, h => by
    simp only [eqFlds] at h
    cases hn : (fd.name != "_") with
    | false =>
      rw [hn] at h
      simp only [cond_false, Option.some.injEq] at h
      subst h
      have : fd.name = "_" := by simpa using hn
      simp [Op.eqFields, this]
    | true =>
      rw [hn] at h
      simp only [cond_true] at h
      have hne : fd.name ≠ "_" := by simpa using hn
      split at h
      · rename_i a b ha hb
        simp only [Op.eqFields, hne, ne_eq, not_false_eq_true, if_true, Sem.run_bind, pureRun_run ha W, pureRun_run hb W, Result.andThen_ok, hf _ a b r h]
        cases r <;> rfl
      · cases h
  | fd :: fd' :: l, r, h => by
    simp only [eqFlds] at h
    cases hn : (fd.name != "_") with
    | false =>
      rw [hn] at h
      simp only [cond_false] at h
      have : fd.name = "_" := by simpa using hn
      have ih := eqFlds_run hf (l := fd' :: l) h
      rw [Op.eqFields]
      simp only [this, ne_eq, not_true_eq_false, if_false]
      exact ih
    | true =>
      rw [hn] at h
      simp only [cond_true] at h
      have hne : fd.name ≠ "_" := by simpa using hn
      split at h
      · rename_i a b ha hb
        split at h
        · rename_i p q hp hq
          simp only [Option.some.injEq] at h
          subst h
          have ih := eqFlds_run hf (l := fd' :: l) hq
          rw [Op.eqFields]
          simp only [hne, ne_eq, not_false_eq_true, if_true, Sem.run_bind, pureRun_run ha W, pureRun_run hb W, Result.andThen_ok, hf _ a b p hp]
          cases p
          · rfl
          · simpa using ih
        · cases h
      · cases h

theorem eqv_run : ∀ {d : Nat} {t : TypeId} {x y : Value} {r : Bool}, eqv P d t x y = some r → (Op.equalIn d t x y).run P W = .ok r W
  | 0, _, _, _, _, h => by simp [eqv] at h
  | d + 1, t, x, y, r, h => by
    unfold eqv at h
    split at h
    · rename_i hu
      split at h
      · simp only [Option.some.injEq] at h; subst h
        simp [Op.equalIn, run_underlying hu]
      · cases h
    · rename_i k0 hu
      split at h
      · rename_i k a k' b
        cases hk : decide (k = k') with
        | false => rw [hk] at h; cases h
        | true =>
          rw [hk] at h
          simp only [cond_true, Option.some.injEq] at h; subst h
          have : k = k' := of_decide_eq_true hk
          subst this
          simp [Op.equalIn, run_underlying hu]
      · cases h
    · rename_i hu
      split at h
      · simp only [Option.some.injEq] at h; subst h
        simp [Op.equalIn, run_underlying hu]
      · cases h
    · rename_i n e hu
      split at h
      · rename_i xs ys
        split at h
        · rename_i i hi
          rw [run_equalIn_array W d xs ys hu hi]
          exact eqItems_run (fun a b r h => eqv_run h) h
        · cases h
      · cases h
    · rename_i fs hu
      split at h
      · rename_i xs ys
        cases hs : P.stoodInHeld t with
        | true => rw [hs] at h; cases h
        | false =>
          rw [hs] at h
          simp only [cond_false] at h
          have hf : P.fieldsOf t = fs := by simp [Program.fieldsOf, hu]
          rw [run_equalIn_struct W d t xs ys (by rw [hf, hu]) hs, hf]
          exact eqFlds_run (fun u a b r h => eqv_run h) h
      · cases h
    · cases h
end

/-! ### Contracts of functions that only compute -/
/-- What a call comes to, however it stands: it is 'v', and what was there is as it was. -/
def Gives (P : Program) (f : FuncId) (args : Array Value) (v : Value) : Prop :=
  ∀ (F : Fence) (n : Nat) (o : Oper) (a : Act) (W : World) (K : Act → World → Prop) (Q : Exit → Act → World → Prop), F.fn = (fun _ => True) → F.depth = none → F.alive = false → LaidG W →
    (∀ W', Below W.heap.size W W' → K (a.put o.dst v) W') → o.uponIn F n P a K Q ((callFunc f args).run P W)

structure Ctr (P : Program) where
  f : FuncId
  pre : List Value → Prop
  val : List Value → Value
  sound : ∀ args, pre args → Gives P f args.toArray (val args)

def findC {P : Program} : List (Ctr P) → Nat → Option (Ctr P)
  | [], _ => none
  | c :: r, f => bif Nat.beq c.f f then some c else findC r f

theorem findC_f {P : Program} : ∀ {l : List (Ctr P)} {f : Nat} {c : Ctr P}, findC l f = some c → c.f = f
  | [], _, _, h => by cases h
  | c :: r, f, c', h => by
    simp only [findC] at h
    cases hb : Nat.beq c.f f with
    | true => rw [hb] at h; simp only [cond_true, Option.some.injEq] at h; subst h; exact Nat.eq_of_beq_eq_true hb
    | false => rw [hb] at h; exact findC_f h

/-! ### Rows -/
/-- A place holds a row. -/
structure RowR (W : World) (q : RowS) (p : RP) : Prop where
  n : p.n = q.n
  cap : q.n ≤ p.cap
  own : q.own = true → p.own = true ∧ p.off = 0 ∧ p.cap ≤ maxLen
  mem : ∃ cells, W.heap[p.k]? = some (.cells cells q.ty) ∧ (q.own = true → cells.size = p.cap * q.sz) ∧ ∀ j, j < q.n → (q.el j).cells.size = q.sz ∧ ∀ i, i < q.sz → cells[p.off + (j * q.sz + i)]? = (q.el j).cells[i]?

theorem RowR.keep {W W' : World} {q : RowS} {p : RP} (h : RowR W q p) (hk : W'.heap[p.k]? = W.heap[p.k]?) : RowR W' q p :=
  { h with mem := by obtain ⟨cells, hc, h1, h2⟩ := h.mem; exact ⟨cells, hk.trans hc, h1, h2⟩ }
theorem RowR.alien {W : World} {q : RowS} {p : RP} (h : RowR W q p) : RowR W { q with own := false } p :=
  { n := h.n, cap := h.cap, own := fun e => (by cases e), mem := let ⟨cells, hc, _, h2⟩ := h.mem; ⟨cells, hc, fun e => (by cases e), h2⟩ }

/-- What is told of an argument: a value, or what a row holds. -/
inductive DV where
  | v (x : Value)
  | row (q : RowS)

def Shows (W : World) : DV → Value → Prop
  | .v x, y => y = x
  | .row q, y => ∃ p : RP, y = .slice (some ⟨p.k, p.off, none⟩) p.n p.cap ∧ RowR W { q with own := false } p
def ShowsL (W : World) : List DV → List Value → Prop
  | [], [] => True
  | d :: r, x :: l => Shows W d x ∧ ShowsL W r l
  | _, _ => False

/-- The same of arguments of which some are rows. -/
def GivesD (P : Program) (f : FuncId) (ds : List DV) (v : Value) : Prop :=
  ∀ (F : Fence) (n : Nat) (o : Oper) (a : Act) (W : World) (K : Act → World → Prop) (Q : Exit → Act → World → Prop) (args : List Value), F.fn = (fun _ => True) → F.depth = none → F.alive = false → LaidG W → ShowsL W ds args →
    (∀ W', Below W.heap.size W W' → K (a.put o.dst v) W') → o.uponIn F n P a K Q ((callFunc f args.toArray).run P W)

structure CtrD (P : Program) where
  f : FuncId
  pre : List DV → Prop
  val : List DV → Value
  sound : ∀ ds, pre ds → GivesD P f ds (val ds)

def findD {P : Program} : List (CtrD P) → Nat → Option (CtrD P)
  | [], _ => none
  | c :: r, f => bif Nat.beq c.f f then some c else findD r f

theorem findD_f {P : Program} : ∀ {l : List (CtrD P)} {f : Nat} {c : CtrD P}, findD l f = some c → c.f = f
  | [], _, _, h => by cases h
  | c :: r, f, c', h => by
    simp only [findD] at h
    cases hb : Nat.beq c.f f with
    | true => rw [hb] at h; simp only [cond_true, Option.some.injEq] at h; subst h; exact Nat.eq_of_beq_eq_true hb
    | false => rw [hb] at h; exact findD_f h

structure Cts (P : Program) where
  v : List (Ctr P)
  d : List (CtrD P)
instance {P : Program} : Coe (List (Ctr P)) (Cts P) := ⟨fun l => ⟨l, []⟩⟩

/-! ### One operation -/
def isConst : Operand → Bool
  | .const _ => true
  | _ => false

def rdP {α : Type} : Option α → Rd α
  | some a => .ret a
  | none => .stop

def capsOf : List Operand → Rd (List (Nat × Nat))
  | [] => .ret []
  | x :: r => (rdX x).bind fun
    | .ptr b o => (capsOf r).bind fun l => .ret ((b, o) :: l)
    | _ => .stop

def placeAt (ix : Value) (len : Nat) (dec : Dec) : Option (Nat × List Prop) :=
  match ix with
  | .int _ i => match dec with
    | .n j => bif Nat.blt j len then some (j, [i = (j : Int)]) else none
    | _ => match i with
      | .ofNat j => bif Nat.blt j len then some (j, []) else none
      | _ => none
  | _ => none

def placeR (ix : Value) (len : Nat) (dec : Dec) : Option (Nat × List Prop) :=
  match ix with
  | .int _ i => match dec with
    | .n j => some (j, [i = (j : Int), j < len])
    | _ => match i with
      | .ofNat j => some (j, [j < len])
      | _ => none
  | _ => none

/-- What is read at cell off of element j. -/
def rowLoad (P : Program) (t : TypeId) (q : RowS) (j off sz : Nat) : Option Value :=
  bif Nat.beq sz q.sz then
    match isAggT P t with
    | some true => match P.info? t with
      | some i => match off with
        | 0 => bif Nat.beq i.size sz && isWhole (q.el j) sz then some (q.el j) else
            (bif Nat.ble i.size sz then some (.agg (((q.el j).cells.toList).take i.size).toArray) else none)
        | off => bif Nat.ble (off + i.size) sz then some (.agg ((((q.el j).cells.toList).drop off).take i.size).toArray) else none
      | none => none
    | some false => (bif Nat.blt off sz then (q.el j).cells.toList[off]? else none)
    | none => none
  else none

/-- The elements of a slice whose block holds plain values. -/
def slEl (P : Program) (ty : TypeId) (sz : Nat) (vs : List Value) (off n : Nat) : Option (Nat → Value) :=
  bif Nat.ble (off + n * sz) vs.length then
    match isAggT P ty with
    | some true => some fun j => .agg ((vs.drop (off + j * sz)).take sz).toArray
    | some false => bif Nat.beq sz 1 && ((vs.drop off).take n).all Value.oneCell' then some fun j => vs.getD (off + j) undef else none
    | none => none
  else none

def rdD (P : Program) (x : Operand) : Rd DV := (rdX x).bind fun
  | .v y => .ret (.v y)
  | .fn f [] => .ret (.v (.func (.func f) #[] #[]))
  | .row r => (rdR r).bind fun q => .ret (.row { q with own := false })
  | .sl b off n cap => bif Nat.ble n cap then (rdB b).bind fun (c, ty) => match P.info? ty, plainVs (ctList c) with
    | some i, some vs => (rdP (slEl P ty i.size vs off n)).bind fun el => .ret (.row ⟨ty, i.size, n, el, false⟩)
    | _, _ => .stop
    else .stop
  | _ => .stop

def rdDs (P : Program) : List Operand → Rd (List DV)
  | [] => .ret []
  | x :: r => (rdD P x).bind fun v => (rdDs P r).bind fun l => .ret (v :: l)

def isAddrFree : Value → Bool
  | .bool _ | .int _ _ | .string _ | .float _ _ => true
  | _ => false

def plainV (P : Program) (op : BinOp) (t : TypeId) (x y : Operand) (a b : Value) : Option Res :=
  match pureRun P (do eqGuard op t x y a b; binOp op t a b) with
  | some v => some ⟨.v v, [], []⟩
  | none => none

def eqV (P : Program) (op : BinOp) (t : TypeId) (x y : Operand) (a b : Value) : Option Res :=
  match pureRun P (eqGuard op t x y a b), a, eqv P Op.maxDepth t a b with
  | some (), .agg _, some r => match op with
    | .eql => some ⟨.v (.bool r), [], []⟩
    | .neq => some ⟨.v (.bool (!r)), [], []⟩
    | _ => none
  | _, _, _ => none

def shV (op : BinOp) (a b : Value) : Option Res :=
  match a, b with
  | .int k m, .int _ c => match op with
    | .shl => some ⟨.v (.int k (k.wrap (m * 2 ^ (min c.toNat k.bits)))), [], [0 ≤ c]⟩
    | .shr => some ⟨.v (.int k (m.fdiv (2 ^ (min c.toNat k.bits)))), [], [0 ≤ c]⟩
    | _ => none
  | _, _ => none

def divV (op : BinOp) (a b : Value) : Option Res :=
  match a, b with
  | .int k m, .int k' c => bif decide (k = k') then (match op with
    | .quo => some ⟨.v (.int k (k.wrap (m.tdiv c))), [], [c ≠ 0]⟩
    | .rem => some ⟨.v (.int k (m.tmod c)), [], [c ≠ 0]⟩
    | _ => none) else none
  | _, _ => none

def binV (P : Program) (op : BinOp) (t : TypeId) (x y : Operand) (a b : Value) : Option Res :=
  match op with
  | .eql => bif isAddrFree a then plainV P .eql t x y a b else eqV P .eql t x y a b
  | .neq => bif isAddrFree a then plainV P .neq t x y a b else eqV P .neq t x y a b
  | .shl => bif isConst y then plainV P .shl t x y a b else shV .shl a b
  | .shr => bif isConst y then plainV P .shr t x y a b else shV .shr a b
  | .quo => bif isConst y then plainV P .quo t x y a b else divV .quo a b
  | .rem => bif isConst y then plainV P .rem t x y a b else divV .rem a b
  | op => plainV P op t x y a b

def fallback (P : Program) (o : Oper) : Rd Res :=
  (rdVs o.op.operands.toList).bind fun vs => match pureRun P (execOp (rho o.op.operands.toList vs) o) with
    | some (.value v) => .ret ⟨.v v, [], []⟩
    | _ => .stop

def rdOpt : Option Operand → Rd (Option Value)
  | none => .ret none
  | some x => (rdV x).bind fun v => .ret (some v)

/-- The cells of a slice's literal. -/
def bsCells (t : TypeId) (len : Nat) (parts : Array (Nat × Value)) : Sem (TypeId × Array Value) := do
  let .slice elem ← underlying t | stuck "buildSlice: slice type expected"
  let size ← sizeOf elem
  if len * size > 2 ^ 24 then unsupported (.resourceLimit "buildSlice: more than 2^24 cells")
  let zero ← if len * size = 0 then pure #[] else do pure (← zeroValue elem).cells
  let some cells := Instr.fill (fun i => some (i * size, size)) ((Array.range (len * size)).map (zero[· % zero.size]!)) parts.toList
    | stuck "buildSlice: a part of the wrong size"
  pure (elem, cells)

def rdParts : List (Nat × Operand) → Rd (List (Nat × Value))
  | [] => .ret []
  | (i, x) :: r => (rdV x).bind fun v => (rdParts r).bind fun l => .ret ((i, v) :: l)

def isSliceT (P : Program) (t : TypeId) : Bool :=
  match P.underlying t with
  | some (.slice _) => true
  | _ => false

/-- 'append' of one element: what the row holds behind it. -/
def appQ (e : TypeId) (sz : Nat) (q : RowS) (x : Value) : RowS := ⟨e, sz, q.n + 1, fun i => bif Nat.beq i q.n then x else q.el i, true⟩
def rowBase (e : TypeId) (sz : Nat) : SV → Rd (RowS × List Wr)
  | .v (.slice none 0 0) => .ret (⟨e, sz, 0, fun _ => undef, true⟩, [])
  | .row r => (rdR r).bind fun q => bif q.own && (Nat.beq q.ty e && Nat.beq q.sz sz) then .ret (q, [.r r none]) else .stop
  | _ => .stop
def appOk (i : TypeInfo) (z : Value) : Bool := Nat.ble 1 i.size && (Nat.ble i.bytes 100000 && Nat.beq z.cells.size i.size)
def isOne (P : Program) (e : TypeId) (x : Value) (sz : Nat) : Bool := Nat.beq x.cells.size sz && (x.cells.toList.all Value.oneCell' && (match isAggT P e with
  | some true => true
  | _ => Value.oneCell' x))
def appRd (P : Program) (x y : Operand) (t : TypeId) (nm : Nat) : Rd Res :=
  match P.underlying t with
  | some (.slice e) => match P.info? e with
    | some i => match i.zero with
      | some z => bif appOk i z then
          (rdX y).bind fun
          | .sl b off 1 _ => (rdB b).bind fun (c, _) => (rdP (loadC P e c off)).bind fun
            | .v u => bif isOne P e u i.size then
                (rdX x).bind fun sx => (rowBase e i.size sx).bind fun (q, wr) =>
                  bif Nat.blt nm gbase then .get (.u nm) fun
                    | none => .ret ⟨.row nm, wr ++ [.u nm, .r nm (some (appQ e i.size q u))], [q.n < 1000000]⟩
                    | some _ => .stop
                  else .stop
              else .stop
            | _ => .stop
          | _ => .stop
        else .stop
      | none => .stop
    | none => .stop
  | _ => .stop

def cutRow (q : RowS) (l h : Nat) : RowS := { q with n := h - l, el := fun j => q.el (l + j), own := false }
def litNat : Option Value → Option (Option Nat)
  | none => some none
  | some (.int _ (.ofNat j)) => some (some j)
  | _ => none

/-- A byte of a text. -/
def strAt (s : ByteArray) (i : Int) : Int := ((s[i.toNat]?).getD 0).toNat
def strIx (P : Program) (t : TypeId) (x ix : Operand) : Option (ByteArray × Operand) :=
  match x with
  | .const (.string s) => match P.underlying t with
    | some .string => bif isConst ix then none else some (s, ix)
    | _ => none
  | _ => none

def vop (P : Program) (cts : Cts P) (o : Oper) (nm : Nat) (dec : Dec) : Rd Res :=
  match o.op with
  | .move x => (rdX x).bind fun y => .ret ⟨y, [], []⟩
  | .assign x => (rdX x).bind fun y => .ret ⟨y, [], []⟩
  | .pick c a b => (rdV c).bind fun
    | .bool true => (rdX a).bind fun y => .ret ⟨y, [], []⟩
    | .bool false => (rdX b).bind fun y => .ret ⟨y, [], []⟩
    | _ => .stop
  | .alloc e => match P.info? e with
    | some i => match i.zero with
      | some z => bif Nat.blt nm gbase then .get (.u nm) fun
        | none => .ret ⟨.ptr nm 0, [.u nm, .b nm (.whole z) e], []⟩
        | some _ => .stop
        else .stop
      | none => .stop
    | none => .stop
  | .box e x => (rdX x).bind fun y => bif Nat.blt nm gbase then .get (.u nm) fun
      | none => .ret ⟨.ptr nm 0, [.u nm, .b nm (ctOf y) e], []⟩
      | some _ => .stop
      else .stop
  | .load t a => match a with
    | .global g => match lookLz lz g with
      | some (v, _) => (rdP (loadC P t (.whole v) 0)).bind fun y => .ret ⟨y, [], []⟩
      | none => .stop
    | a => (rdX a).bind fun
      | .ptr b off => (rdB b).bind fun (c, _) => (rdP (loadC P t c off)).bind fun y => .ret ⟨y, [], []⟩
      | .rp r j off sz => (rdR r).bind fun q => (rdP (rowLoad P t q j off sz)).bind fun y => .ret ⟨.v y, [], [j < q.n]⟩
      | _ => .stop
  | .store t a x => (rdX a).bind fun
    | .ptr b off => (rdX x).bind fun y => (rdB b).bind fun (c, ty) => (rdP (storeC P t c off y)).bind fun c' => .ret ⟨.v undef, [.b b c' ty], []⟩
    | _ => .stop
  | .indexAddr t x ix => (rdX x).bind fun
    | .ptr b off => (rdV ix).bind fun i => match P.underlying t with
      | some (.array len e) => match P.info? e with
        | some inf => (rdP (placeAt i len dec)).bind fun (j, ps) => .ret ⟨.ptr b (off + j * inf.size), [], ps⟩
        | none => .stop
      | _ => .stop
    | .sl b off len _ => (rdV ix).bind fun i => match P.underlying t with
      | some (.slice e) => match P.info? e with
        | some inf => (rdP (placeAt i len dec)).bind fun (j, ps) => .ret ⟨.ptr b (off + j * inf.size), [], ps⟩
        | none => .stop
      | _ => .stop
    | .row r => (rdV ix).bind fun i => match P.underlying t with
      | some (.slice e) => match P.info? e with
        | some inf => (rdR r).bind fun q => bif Nat.beq inf.size q.sz then (rdP (placeR i q.n dec)).bind fun (j, ps) => .ret ⟨.rp r j 0 q.sz, [], ps⟩ else .stop
        | none => .stop
      | _ => .stop
    | _ => .stop
  | .slice t x lo hi mx => (rdX x).bind fun
    | .ptr b off => (rdOpt lo).bind fun vl => (rdOpt hi).bind fun vh => (rdOpt mx).bind fun vm => match P.underlying t with
      | some (.array n e) => match P.info? e with
        | some inf => (rdP (pureRun P (Instr.sliceBounds false n n vl vh vm))).bind fun (l, h, m) =>
          bif Nat.beq m l then .stop else .ret ⟨.sl b (off + l * inf.size) (h - l) (m - l), [], []⟩
        | none => .stop
      | _ => .stop
    | .sl b off len cap => (rdOpt lo).bind fun vl => (rdOpt hi).bind fun vh => (rdOpt mx).bind fun vm => match P.underlying t with
      | some (.slice e) => match P.info? e with
        | some inf => (rdP (pureRun P (Instr.sliceBounds true len cap vl vh vm))).bind fun (l, h, m) =>
          .ret ⟨.sl b (bif Nat.beq m l then off else off + l * inf.size) (h - l) (m - l), [], []⟩
        | none => .stop
      | _ => .stop
    | .row r => match mx with
      | some _ => .stop
      | none => (rdOpt lo).bind fun vl => (rdOpt hi).bind fun vh => match litNat vl, litNat vh with
        | some l, some h => match P.underlying t with
          | some (.slice e) => match P.info? e with
            | some inf => (rdR r).bind fun q => bif Nat.beq inf.size q.sz then
                bif Nat.blt nm gbase then .get (.u nm) fun
                  | none => .ret ⟨.row nm, [.r r (some { q with own := false }), .u nm, .r nm (some (cutRow q (l.getD 0) (h.getD q.n)))], [l.getD 0 ≤ h.getD q.n, h.getD q.n ≤ q.n]⟩
                  | some _ => .stop
                else .stop
              else .stop
            | none => .stop
          | _ => .stop
        | _, _ => .stop
    | _ => fallback P o
  | .sliceToArrayPointer t x => (rdX x).bind fun
    | .sl b off len _ => match P.underlying t with
      | some (.array n _) => bif Nat.ble n len then .ret ⟨.ptr b off, [], []⟩ else .stop
      | _ => .stop
    | _ => .stop
  | .buildSlice t len parts => (rdParts parts.toList).bind fun ps => (rdP (pureRun P (bsCells t len ps.toArray))).bind fun (e, cells) =>
    bif Nat.blt nm gbase then .get (.u nm) fun
      | none => match dec with
        | .b true => match P.info? e with
          | some i => (rdP (slEl P e i.size cells.toList 0 len)).bind fun el =>
            bif Nat.beq cells.size (len * i.size) && Nat.ble len 100000 then .ret ⟨.row nm, [.u nm, .r nm (some ⟨e, i.size, len, el, true⟩)], []⟩ else .stop
          | none => .stop
        | _ => .ret ⟨.sl nm 0 len len, [.u nm, .b nm (.parts (cells.toList.map .v)) e], []⟩
      | some _ => .stop
      else .stop
  | .fieldAddr s x f => (rdX x).bind fun
    | .ptr b off => match P.underlying s with
      | some (.struct fs) => match fs[f]? with
        | some fd => match P.info? fd.type with
          | some inf => bif Nat.beq inf.size 0 then .stop else .ret ⟨.ptr b (off + fd.offset), [], []⟩
          | none => .stop
        | none => .stop
      | _ => .stop
    | .rp r j off sz => match P.underlying s with
      | some (.struct fs) => match fs[f]? with
        | some fd => match P.info? fd.type with
          | some inf => bif Nat.beq inf.size 0 then .stop else .ret ⟨.rp r j (off + fd.offset) sz, [], []⟩
          | none => .stop
        | none => .stop
      | _ => .stop
    | _ => .stop
  | .nilCheck x => (rdX x).bind fun
    | .ptr b off => .ret ⟨.ptr b off, [], []⟩
    | _ => fallback P o
  | .extract x i => (rdX x).bind fun
    | .mix true l => (rdP (l[i]?)).bind fun y => .ret ⟨y.sv, [], []⟩
    | _ => fallback P o
  | .makeFunc (.func f) first caps => match first.toList with
    | [] => (capsOf caps.toList).bind fun l => .ret ⟨.fn f l, [], []⟩
    | _ => .stop
  | .binOp op t x y _ => (rdV x).bind fun a => (rdV y).bind fun b => rdP (binV P op t x y a b)
  | .call c => match c.callee with
    | .value f => (rdX f).bind fun
      | .fn g [] => match findC cts.v g with
        | some ct => (rdVs c.args.toList).bind fun vs => .ret ⟨.v (ct.val vs), [], [ct.pre vs]⟩
        | none => (rdP (findD cts.d g)).bind fun ct => (rdDs P c.args.toList).bind fun vs => .ret ⟨.v (ct.val vs), [], [ct.pre vs]⟩
      | _ => .stop
    | .builtin b => match b, c.args.toList, c.argTypes.toList with
      | .len, [x], [t] => bif isSliceT P t then (rdX x).bind fun
          | .sl _ _ n _ => .ret ⟨.v (.int .i64 n), [], []⟩
          | .row r => (rdR r).bind fun q => .ret ⟨.v (.int .i64 q.n), [], []⟩
          | _ => fallback P o
        else fallback P o
      | .append, [x, y], [t, t'] => bif Nat.beq t t' then appRd P x y t nm else .stop
      | _, _, _ => fallback P o
    | .invoke _ _ => .stop
  | .select _ _ => .stop
  | .index t x ix => match strIx P t x ix with
    | some (s, ix) => (rdV ix).bind fun
      | .int _ i => .ret ⟨.v (.int .u8 (strAt s i)), [], [0 ≤ i ∧ i < s.size]⟩
      | _ => .stop
    | none => fallback P o
  | _ => fallback P o

end Go.Sx
