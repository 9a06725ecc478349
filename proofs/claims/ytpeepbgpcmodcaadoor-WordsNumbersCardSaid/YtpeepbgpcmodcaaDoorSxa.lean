/-
  A symbolic executor for the model's code, first part: values, states, the reader, one operation. Generic in the program.
-/
import Derived.WalkKit
import Derived.OrdersIn
import Derived.LoopNIn
import Derived.ChangeKeysEq
import Derived.RangeFuncRecord
import Derived.Maps.AppendAt
import Derived.Lib.DecodeN
import Derived.Lib.ItoaNum
namespace Go.Sx
open Go Go.RowKit
inductive TW where
  | v (x : Value)
  | row (r : Nat)
inductive TV where
  | v (x : Value)
  | row (r : Nat)
  | ag (l : List TW)
def TW.tv : TW → TV
  | .v x => .v x
  | .row r => .row r
inductive SV where
  | v (x : Value)
  | ptr (b off : Nat)
  | fn (f : FuncId) (caps : List (Nat × Nat))
  | yld (l : Nat)
  | sl (b off len cap : Nat)
  | row (r : Nat)
  | rp (r j off sz : Nat)
  | mix (t : Bool) (l : List TV)
def TV.sv : TV → SV
  | .v x => .v x
  | .row r => .row r
  | .ag l => .mix false (l.map TW.tv)
def lz : List (Nat × (Value × TypeId)) :=
  (0, (.agg ((List.range 256).map fun c => Value.int .u8 (Lib.firstT c)).toArray, 0)) ::
  (1, (.agg ((List.range 32).map fun c => Value.int .u8 (if c % 2 = 0 then Lib.accLo (c / 2) else Lib.accHi (c / 2))).toArray, 0)) ::
  (2, (.agg (Lib.pow10Tab.map fun z => Value.int .u64 z).toArray, 0)) ::
  []
def rowFs : List Nat :=
  9 ::
  10 ::
  []
def LaidG (W : World) : Prop := ∀ x ∈ lz, ∃ ty, W.heap[x.1]? = some (.cells x.2.1.cells ty)
def lookLz : List (Nat × (Value × TypeId)) → Nat → Option (Value × TypeId)
  | [], _ => none
  | x :: r, g => bif Nat.beq x.1 g then some x.2 else lookLz r g
theorem lookLz_mem : ∀ {l : List (Nat × (Value × TypeId))} {g : Nat} {y : Value × TypeId}, lookLz l g = some y → (g, y) ∈ l
  | [], _, _, h => by cases h
  | x :: r, g, y, h => by
    simp only [lookLz] at h
    cases hb : Nat.beq x.1 g with
    | true =>
      rw [hb] at h
      simp only [cond_true, Option.some.injEq] at h
      have := Nat.eq_of_beq_eq_true hb
      subst this
      subst h
      simp
    | false => rw [hb] at h; exact List.mem_cons_of_mem _ (lookLz_mem h)
structure RP where
  own : Bool
  k : Nat
  off : Nat
  n : Nat
  cap : Nat
structure Ren where
  b : Nat → Option Nat
  r : Nat → Option RP
instance : CoeFun Ren fun _ => Nat → Option Nat := ⟨Ren.b⟩
def adr (β : Ren) (p : Nat × Nat) : Option Value := (β p.1).map fun k => .pointer (some ⟨k, p.2, none⟩)
def adrs (β : Ren) : List (Nat × Nat) → Option (List Value)
  | [] => some []
  | p :: r => match adr β p, adrs β r with
    | some v, some l => some (v :: l)
    | _, _ => none
def denW (β : Ren) : TW → Option Value
  | .v x => some x
  | .row r => (β.r r).map fun p => .slice (some ⟨p.k, p.off, none⟩) p.n p.cap
def denWs (β : Ren) : List TW → Option (List Value)
  | [] => some []
  | x :: r => match denW β x, denWs β r with
    | some v, some l => some (v :: l)
    | _, _ => none
def denT (β : Ren) : TV → Option Value
  | .ag l => (denWs β l).map fun vs => .agg vs.toArray
  | .v x => some x
  | .row r => (β.r r).map fun p => .slice (some ⟨p.k, p.off, none⟩) p.n p.cap
def denTs (β : Ren) : List TV → Option (List Value)
  | [] => some []
  | x :: r => match denT β x, denTs β r with
    | some v, some l => some (v :: l)
    | _, _ => none
def den (β : Ren) : SV → Option Value
  | .v x => some x
  | .ptr b o => adr β (b, o)
  | .fn f caps => match adrs β caps with
    | some l => some (.func (.func f) #[] l.toArray)
    | none => none
  | .yld l => (β l).map fun k => .func (.yield k) #[] #[]
  | .sl b o n c => (β b).map fun k => .slice (some ⟨k, o, none⟩) n c
  | .row r => (β.r r).map fun p => .slice (some ⟨p.k, p.off, none⟩) p.n p.cap
  | .rp r j o sz => (β.r r).map fun p => .pointer (some ⟨p.k, p.off + (j * sz + o), none⟩)
  | .mix t l => (denTs β l).map fun vs => bif t then .tuple vs.toArray else .agg vs.toArray
def dens (β : Ren) : List SV → Option (List Value)
  | [] => some []
  | x :: r => match den β x, dens β r with
    | some v, some l => some (v :: l)
    | _, _ => none
inductive Ct where
  | whole (x : Value)
  | parts (l : List SV)
  | iter (s : ByteArray) (p : Nat)
def denCt (β : Ren) : Ct → Option (Array Value)
  | .whole x => some x.cells
  | .parts l => match dens β l with
    | some vs => some vs.toArray
    | none => none
  | .iter _ _ => none
def denO (β : Ren) (c : Ct) (ty : TypeId) : Option Obj :=
  match c with
  | .iter s p => some (.stringIter s p)
  | c => (denCt β c).map fun cells => .cells cells ty
def isIt : Ct → Bool
  | .iter _ _ => true
  | _ => false
theorem denO_cells {β : Ren} {c : Ct} {ty : TypeId} {cells : Array Value} (h : denCt β c = some cells) : denO β c ty = some (.cells cells ty) := by
  cases c with
  | iter s p => cases h
  | whole x => simp only [denO, h, Option.map_some]
  | parts l => simp only [denO, h, Option.map_some]
theorem denO_not {β : Ren} {c : Ct} {ty : TypeId} {o : Obj} (h : denO β c ty = some o) (hc : isIt c = false) : ∃ cells, denCt β c = some cells ∧ o = .cells cells ty := by
  cases c with
  | iter s p => cases hc
  | whole x => simp only [denO, Option.map_eq_some_iff] at h; obtain ⟨cs, h1, h2⟩ := h; exact ⟨cs, h1, h2.symm⟩
  | parts l => simp only [denO, Option.map_eq_some_iff] at h; obtain ⟨cs, h1, h2⟩ := h; exact ⟨cs, h1, h2.symm⟩
theorem denO_loop {β : Ren} {c : Ct} {ty : TypeId} {o : Obj} {r : Loop} (h : denO β c ty = some o) (ho : o = .loop r) : False := by
  subst ho
  cases c with
  | iter s p => cases h
  | whole x => simp only [denO, Option.map_eq_some_iff] at h; obtain ⟨cs, h1, h2⟩ := h; cases h2
  | parts l => simp only [denO, Option.map_eq_some_iff] at h; obtain ⟨cs, h1, h2⟩ := h; cases h2
def look {α : Type} : List (Nat × α) → Nat → Option α
  | [], _ => none
  | (j, x) :: r, i => bif Nat.beq j i then some x else look r i
structure LoopS where
  st : LoopState
  pend : Option Code
  ts : List (Nat × SV)
  N : Nat
  params : List Tmp
  asg : Code
  body : Code
structure RowS where
  ty : TypeId
  sz : Nat
  n : Nat
  el : Nat → Value
  own : Bool
structure St where
  ts : List (Nat × SV)
  bs : List (Nat × (Ct × TypeId))
  ls : List (Nat × LoopS)
  us : List Nat
  rs : List (Nat × Option RowS)
def memN (i : Nat) : List Nat → Bool
  | [] => false
  | j :: r => bif Nat.beq j i then true else memN i r
inductive Loc where
  | t (i : Nat)
  | b (i : Nat)
  | l (i : Nat)
  | u (i : Nat)
  | r (i : Nat)
def Loc.eq : Loc → Loc → Bool
  | .t i, .t j => Nat.beq i j
  | .b i, .b j => Nat.beq i j
  | .l i, .l j => Nat.beq i j
  | .u i, .u j => Nat.beq i j
  | .r i, .r j => Nat.beq i j
  | _, _ => false
inductive C where
  | sv (x : SV)
  | blk (c : Ct) (ty : TypeId)
  | lp (q : LoopS)
  | taken
  | row (q : RowS)
def lookR (l : List (Nat × Option RowS)) (i : Nat) : Option RowS :=
  match look l i with
  | some (some q) => some q
  | _ => none
def St.get (S : St) : Loc → Option C
  | .t i => match look S.ts i with
    | some x => some (.sv x)
    | none => none
  | .b i => match look S.bs i with
    | some (c, ty) => some (.blk c ty)
    | none => none
  | .l i => match look S.ls i with
    | some q => some (.lp q)
    | none => none
  | .u i => bif memN i S.us then some .taken else none
  | .r i => match lookR S.rs i with
    | some q => some (.row q)
    | none => none
inductive Wr where
  | t (i : Nat) (x : SV)
  | b (i : Nat) (c : Ct) (ty : TypeId)
  | u (i : Nat)
  | r (i : Nat) (q : Option RowS)
def Wr.loc : Wr → Loc
  | .t i _ => .t i
  | .b i _ _ => .b i
  | .u i => .u i
  | .r i _ => .r i
def Wr.val : Wr → Option C
  | .t _ x => some (.sv x)
  | .b _ c ty => some (.blk c ty)
  | .u _ => some .taken
  | .r _ q => q.map .row
def St.put (S : St) : Wr → St
  | .t i x => { S with ts := (i, x) :: S.ts }
  | .b i c ty => { S with bs := (i, (c, ty)) :: S.bs }
  | .u i => { S with us := i :: S.us }
  | .r i q => { S with rs := (i, q) :: S.rs }
def St.puts (S : St) : List Wr → St
  | [] => S
  | x :: r => (S.put x).puts r
inductive Rd (α : Type) where
  | ret (a : α)
  | get (l : Loc) (k : Option C → Rd α)
  | stop
def Rd.bind {α β : Type} : Rd α → (α → Rd β) → Rd β
  | .ret a, f => f a
  | .get l k, f => .get l fun c => (k c).bind f
  | .stop, _ => .stop
def Rd.run {α : Type} : Rd α → St → Option (α × List Loc)
  | .ret a, _ => some (a, [])
  | .get l k, S => match (k (S.get l)).run S with
    | some (a, rd) => some (a, l :: rd)
    | none => none
  | .stop, _ => none
theorem Rd.run_local {α : Type} {p : Rd α} {S S' : St} : ∀ {a : α} {rd : List Loc}, p.run S = some (a, rd) → (∀ l, l ∈ rd → S'.get l = S.get l) → p.run S' = some (a, rd) := by
  induction p with
  | ret x => intro a rd h _; exact h
  | stop => intro a rd h _; exact h
  | get l k ih =>
    intro a rd h hs
    simp only [Rd.run] at h ⊢
    split at h
    · rename_i a' rd' hr
      simp only [Option.some.injEq, Prod.mk.injEq] at h
      obtain ⟨rfl, rfl⟩ := h
      rw [hs l (by simp), ih _ hr (fun l' hl' => hs l' (by simp [hl']))]
    · cases h
theorem Rd.run_bind {α β : Type} {p : Rd α} {f : α → Rd β} {S : St} : ∀ {b : β} {rd : List Loc}, (p.bind f).run S = some (b, rd) →
    ∃ a rd1 rd2, p.run S = some (a, rd1) ∧ (f a).run S = some (b, rd2) := by
  induction p with
  | ret x => intro b rd h; exact ⟨x, [], rd, rfl, h⟩
  | stop => intro b rd h; cases h
  | get l k ih =>
    intro b rd h
    simp only [Rd.bind, Rd.run] at h
    split at h
    · rename_i b' rd' hr
      simp only [Option.some.injEq, Prod.mk.injEq] at h
      obtain ⟨rfl, rfl⟩ := h
      obtain ⟨a, rd1, rd2, h1, h2⟩ := ih _ hr
      exact ⟨a, l :: rd1, rd2, by simp [Rd.run, h1], h2⟩
    · cases h
def rdT (t : Nat) : Rd SV := .get (.t t) fun
  | some (.sv x) => .ret x
  | _ => .stop
def gbase : Nat := 1000000000
def rdB (b : Nat) : Rd (Ct × TypeId) := .get (.b b) fun
  | some (.blk c ty) => match isIt c with
    | true => .stop
    | false => .ret (c, ty)
  | _ => .stop
def rdI (b : Nat) : Rd (ByteArray × Nat × TypeId) := .get (.b b) fun
  | some (.blk (.iter s p) ty) => .ret (s, p, ty)
  | _ => .stop
def rdR (r : Nat) : Rd RowS := .get (.r r) fun
  | some (.row q) => .ret q
  | _ => .stop
def rdX : Operand → Rd SV
  | .tmp t => rdT t
  | .const c => .ret (.v c)
  | .func f => .ret (.fn f [])
  | .global g => (rdB (gbase + g)).bind fun _ => .ret (.ptr (gbase + g) 0)
def rdV (x : Operand) : Rd Value := (rdX x).bind fun
  | .v y => .ret y
  | .fn f [] => .ret (.func (.func f) #[] #[])
  | _ => .stop
def rdVs : List Operand → Rd (List Value)
  | [] => .ret []
  | x :: r => (rdV x).bind fun v => (rdVs r).bind fun l => .ret (v :: l)
def rho : List Operand → List Value → Operand → Value
  | .tmp t :: r, v :: vs, x => match x with
    | .tmp u => bif Nat.beq t u then v else rho r vs x
    | .const c => c
    | .func f => .func (.func f) #[] #[]
    | .global g => .pointer (some ⟨g, 0, none⟩)
  | _ :: r, _ :: vs, x => rho r vs x
  | _, _, x => match x with
    | .tmp _ => undef
    | .const c => c
    | .func f => .func (.func f) #[] #[]
    | .global g => .pointer (some ⟨g, 0, none⟩)
def pureRun {α : Type} (P : Program) : Sem α → Option α
  | .pure a => some a
  | .program k => pureRun P (k P)
  | .mark _ k => pureRun P k
  | _ => none
theorem pureRun_run {α : Type} {P : Program} {s : Sem α} {a : α} : pureRun P s = some a → ∀ W, s.run P W = .ok a W := by
  induction s with
  | pure x => intro h W; simp only [pureRun, Option.some.injEq] at h; subst h; rfl
  | program k ih => intro h W; exact ih P h W
  | mark m k ih => intro h W; exact ih h W
  | _ => intro h; cases h
end Go.Sx
/-
  A symbolic executor for the model's code, second part: one operation, and why it is right.
-/
namespace Go.Sx
open Go Go.RowKit
structure Res where
  x : SV
  wr : List Wr
  ps : List Prop
inductive Dec where
  | lit
  | b (d : Bool)
  | n (i : Nat)
def ctOf : SV → Ct
  | .v x => .whole x
  | .ptr b o => .parts [.ptr b o]
  | .fn f c => .parts [.fn f c]
  | .yld l => .parts [.yld l]
  | .sl b o n c => .parts [.sl b o n c]
  | .row r => .parts [.row r]
  | .rp r j o sz => .parts [.rp r j o sz]
  | .mix true l => .parts [.mix true l]
  | .mix false l => .parts (l.map TV.sv)
def plainVs : List SV → Option (List Value)
  | [] => some []
  | .v x :: r => match plainVs r with
    | some l => some (x :: l)
    | none => none
  | _ => none
def ctList : Ct → List SV
  | .whole x => x.cells.toList.map .v
  | .parts l => l
  | .iter s p => [.v (.string s), .v (.int .i64 p)]
def isAggT (P : Program) (t : TypeId) : Option Bool :=
  match P.underlying t with
  | some (.struct _) => some true
  | some (.array _ _) => some true
  | some _ => some false
  | none => none
def isWhole (x : Value) (n : Nat) : Bool :=
  match x with
  | .agg cs => Nat.beq cs.size n
  | _ => false
def tws : List TV → Option (List TW)
  | [] => some []
  | .v x :: r => match tws r with
    | some l => some (.v x :: l)
    | none => none
  | .row x :: r => match tws r with
    | some l => some (.row x :: l)
    | none => none
  | _ => none
def tvs : List SV → Option (List TV)
  | [] => some []
  | .v x :: r => match tvs r with
    | some l => some (.v x :: l)
    | none => none
  | .row x :: r => match tvs r with
    | some l => some (.row x :: l)
    | none => none
  | .mix false w :: r => match tws w, tvs r with
    | some w, some l => some (.ag w :: l)
    | _, _ => none
  | _ => none
def loadGen (c : Ct) (off n : Nat) : Option SV :=
  match plainVs (((ctList c).drop off).take n) with
  | some l => bif Nat.beq l.length n then some (.v (.agg l.toArray)) else none
  | none => match tvs (((ctList c).drop off).take n) with
    | some l => bif Nat.beq l.length n then some (.mix false l) else none
    | none => none
def tvOne : List TV → Bool
  | [] => true
  | .v x :: r => Value.oneCell' x && tvOne r
  | .row _ :: r => tvOne r
  | .ag _ :: _ => false
def loadC (P : Program) (t : TypeId) (c : Ct) (off : Nat) : Option SV :=
  match isAggT P t with
  | some true => match P.info? t with
    | some i =>
      match c, off with
      | .whole x, 0 => bif isWhole x i.size then some (.v x) else loadGen c off i.size
      | _, _ => loadGen c off i.size
    | none => none
  | some false => (ctList c)[off]?
  | none => none
def splice (c : Ct) (off : Nat) (l' : List SV) : Option Ct :=
  bif Nat.ble (off + l'.length) (ctList c).length then some (.parts ((ctList c).take off ++ l' ++ (ctList c).drop (off + l'.length))) else none
def storeC (P : Program) (t : TypeId) (c : Ct) (off : Nat) (y : SV) : Option Ct :=
  match P.info? t with
  | none => none
  | some i =>
    match y with
    | .v z => bif Nat.beq z.cells.size i.size && z.cells.toList.all Value.oneCell' then
        match off with
        | 0 => bif Nat.beq (ctList c).length i.size then some (.whole z) else splice c 0 (z.cells.toList.map .v)
        | _ => splice c off (z.cells.toList.map .v)
      else none
    | .mix false l => bif Nat.beq l.length i.size && tvOne l then splice c off (l.map TV.sv) else none
    | .mix true _ => none
    | y => bif Nat.beq i.size 1 then splice c off [y] else none
theorem dens_map_v (β : Ren) (l : List Value) : dens β (l.map .v) = some l := by
  induction l with
  | nil => rfl
  | cons x r ih => simp [dens, den, ih]
theorem dens_ctList {β : Ren} {c : Ct} {cells : Array Value} (h : denCt β c = some cells) : dens β (ctList c) = some cells.toList := by
  cases c with
  | whole x => simp only [denCt, Option.some.injEq] at h; subst h; exact dens_map_v β _
  | parts l =>
    simp only [denCt] at h
    simp only [ctList]
    split at h
    · rename_i vs hv; simp only [Option.some.injEq] at h; subst h; simpa using hv
    · cases h
  | iter s p => cases h
theorem dens_length {β : Ren} : ∀ {l : List SV} {vs : List Value}, dens β l = some vs → l.length = vs.length
  | [], vs, h => by simp only [dens, Option.some.injEq] at h; subst h; rfl
  | x :: r, vs, h => by
    simp only [dens] at h
    split at h
    · rename_i v l hv hl; simp only [Option.some.injEq] at h; subst h; simp [dens_length hl]
    · cases h
theorem dens_get {β : Ren} : ∀ {l : List SV} {vs : List Value} {i : Nat} {x : SV}, dens β l = some vs → l[i]? = some x → ∃ v, den β x = some v ∧ vs[i]? = some v
  | [], vs, i, x, _, hx => by simp at hx
  | y :: r, vs, i, x, h, hx => by
    simp only [dens] at h
    split at h
    · rename_i v l hv hl
      simp only [Option.some.injEq] at h
      subst h
      cases i with
      | zero => simp only [List.getElem?_cons_zero, Option.some.injEq] at hx; subst hx; exact ⟨v, hv, rfl⟩
      | succ i => simp only [List.getElem?_cons_succ] at hx; simpa using dens_get hl hx
    · cases h
theorem dens_drop {β : Ren} : ∀ {l : List SV} {vs : List Value} (n : Nat), dens β l = some vs → dens β (l.drop n) = some (vs.drop n)
  | [], vs, n, h => by simp only [dens, Option.some.injEq] at h; subst h; simp [dens]
  | x :: r, vs, 0, h => by simpa using h
  | x :: r, vs, n + 1, h => by
    simp only [dens] at h
    split at h
    · rename_i v l hv hl; simp only [Option.some.injEq] at h; subst h; simpa using dens_drop n hl
    · cases h
theorem dens_take {β : Ren} : ∀ {l : List SV} {vs : List Value} (n : Nat), dens β l = some vs → dens β (l.take n) = some (vs.take n)
  | [], vs, n, h => by simp only [dens, Option.some.injEq] at h; subst h; simp [dens]
  | x :: r, vs, 0, h => by simp [dens]
  | x :: r, vs, n + 1, h => by
    simp only [dens] at h
    split at h
    · rename_i v l hv hl; simp only [Option.some.injEq] at h; subst h; simp [dens, hv, dens_take n hl]
    · cases h
theorem dens_append {β : Ren} : ∀ {l l' : List SV} {vs vs' : List Value}, dens β l = some vs → dens β l' = some vs' → dens β (l ++ l') = some (vs ++ vs')
  | [], l', vs, vs', h, h' => by simp only [dens, Option.some.injEq] at h; subst h; simpa using h'
  | x :: r, l', vs, vs', h, h' => by
    simp only [dens] at h
    split at h
    · rename_i v l hv hl; simp only [Option.some.injEq] at h; subst h; simp [dens, hv, dens_append hl h']
    · cases h
theorem denTs_tw {β : Ren} : ∀ (l : List TW), denTs β (l.map TW.tv) = denWs β l
  | [] => rfl
  | x :: r => by
    have : denT β x.tv = denW β x := by cases x <;> rfl
    simp only [List.map_cons, denTs, denWs, this, denTs_tw r]
theorem den_sv {β : Ren} (x : TV) : den β x.sv = denT β x := by
  cases x with
  | ag l => simp only [TV.sv, den, denTs_tw, denT, cond_false]
  | _ => rfl
theorem tws_spec : ∀ {l : List TV} {xs : List TW}, tws l = some xs → l = xs.map TW.tv
  | [], xs, h => by simp only [tws, Option.some.injEq] at h; subst h; rfl
  | .v x :: r, xs, h => by
    simp only [tws] at h
    split at h
    · rename_i l hl; simp only [Option.some.injEq] at h; subst h; simp [TW.tv, tws_spec hl]
    · cases h
  | .row x :: r, xs, h => by
    simp only [tws] at h
    split at h
    · rename_i l hl; simp only [Option.some.injEq] at h; subst h; simp [TW.tv, tws_spec hl]
    · cases h
  | .ag _ :: r, xs, h => by simp [tws] at h
theorem dens_sv {β : Ren} : ∀ (l : List TV), dens β (l.map TV.sv) = denTs β l
  | [] => rfl
  | x :: r => by simp only [List.map_cons, dens, denTs, den_sv, dens_sv r]
theorem denTs_length {β : Ren} : ∀ {l : List TV} {vs : List Value}, denTs β l = some vs → l.length = vs.length
  | [], vs, h => by simp only [denTs, Option.some.injEq] at h; subst h; rfl
  | x :: r, vs, h => by
    simp only [denTs] at h
    split at h
    · rename_i v l hv hl; simp only [Option.some.injEq] at h; subst h; simp [denTs_length hl]
    · cases h
theorem dens_tvs {β : Ren} : ∀ {l : List SV} {xs : List TV}, tvs l = some xs → l = xs.map TV.sv
  | [], xs, h => by simp only [tvs, Option.some.injEq] at h; subst h; rfl
  | .v x :: r, xs, h => by
    simp only [tvs] at h
    split at h
    · rename_i l hl; simp only [Option.some.injEq] at h; subst h; simp [TV.sv, dens_tvs (β := β) hl]
    · cases h
  | .row x :: r, xs, h => by
    simp only [tvs] at h
    split at h
    · rename_i l hl; simp only [Option.some.injEq] at h; subst h; simp [TV.sv, dens_tvs (β := β) hl]
    · cases h
  | .ptr _ _ :: r, xs, h => by simp [tvs] at h
  | .fn _ _ :: r, xs, h => by simp [tvs] at h
  | .yld _ :: r, xs, h => by simp [tvs] at h
  | .sl _ _ _ _ :: r, xs, h => by simp [tvs] at h
  | .rp _ _ _ _ :: r, xs, h => by simp [tvs] at h
  | .mix false w :: r, xs, h => by
    simp only [tvs] at h
    split at h
    · rename_i u l hu hl; simp only [Option.some.injEq] at h; subst h; simp [TV.sv, dens_tvs (β := β) hl, tws_spec hu]
    · cases h
  | .mix true _ :: r, xs, h => by simp [tvs] at h
theorem tvOne_spec {β : Ren} : ∀ {l : List TV} {vs : List Value}, tvOne l = true → denTs β l = some vs → ∀ x ∈ vs, x.oneCell' = true
  | [], vs, _, h => by simp only [denTs, Option.some.injEq] at h; subst h; simp
  | .v x :: r, vs, ho, h => by
    simp only [tvOne, Bool.and_eq_true] at ho
    simp only [denTs, denT] at h
    split at h
    · rename_i v l hv hl
      simp only [Option.some.injEq] at h hv; subst h; subst hv
      intro y hy
      rcases List.mem_cons.1 hy with rfl | hy
      · exact ho.1
      · exact tvOne_spec ho.2 hl y hy
    · cases h
  | .row x :: r, vs, ho, h => by
    simp only [tvOne] at ho
    simp only [denTs, denT] at h
    split at h
    · rename_i v l hv hl
      simp only [Option.some.injEq] at h; subst h
      simp only [Option.map_eq_some_iff] at hv
      obtain ⟨p, _, rfl⟩ := hv
      intro y hy
      rcases List.mem_cons.1 hy with rfl | hy
      · rfl
      · exact tvOne_spec ho hl y hy
    · cases h
  | .ag _ :: _, vs, ho, h => by simp [tvOne] at ho
theorem dens_plain {β : Ren} : ∀ {l : List SV} {xs vs : List Value}, plainVs l = some xs → dens β l = some vs → vs = xs
  | [], xs, vs, h, h' => by simp only [plainVs, dens, Option.some.injEq] at h h'; subst h; subst h'; rfl
  | .v x :: r, xs, vs, h, h' => by
    simp only [plainVs] at h
    split at h
    · rename_i l hl
      simp only [Option.some.injEq] at h
      subst h
      simp only [dens, den] at h'
      split at h'
      · rename_i v l' hv hl'
        simp only [Option.some.injEq] at h' hv
        subst h' hv
        rw [dens_plain hl hl']
      · cases h'
    · cases h
  | .ptr _ _ :: r, xs, vs, h, _ => by simp [plainVs] at h
  | .fn _ _ :: r, xs, vs, h, _ => by simp [plainVs] at h
  | .yld _ :: r, xs, vs, h, _ => by simp [plainVs] at h
  | .sl _ _ _ _ :: r, xs, vs, h, _ => by simp [plainVs] at h
  | .row _ :: r, xs, vs, h, _ => by simp [plainVs] at h
  | .rp _ _ _ _ :: r, xs, vs, h, _ => by simp [plainVs] at h
  | .mix _ _ :: r, xs, vs, h, _ => by simp [plainVs] at h
theorem addr_add (k off j : Nat) : (⟨k, off, none⟩ : Addr).add j = ⟨k, off + j, none⟩ := by unfold Addr.add; split <;> simp_all
section
variable {P : Program} {β : Ren} {W : World}
theorem cell_of {k : Nat} {cells : Array Value} {ty : TypeId} {fr : Nat × Nat} (hk : W.heap[k]? = some (.cells cells ty fr)) (j : Nat) : W.cell? ⟨k, j, none⟩ = cells[j]? := by
  simp [World.cell?, hk]
theorem isAggT_run {t : TypeId} {b : Bool} (h : isAggT P t = some b) : (isAgg t).run P W = .ok b W := by
  unfold isAggT at h
  unfold isAgg
  split at h
  · rename_i hu; simp only [Option.some.injEq] at h; subst h; simp [run_underlying hu]
  · rename_i hu; simp only [Option.some.injEq] at h; subst h; simp [run_underlying hu]
  · rename_i d h1 h2 hu
    simp only [Option.some.injEq] at h; subst h
    simp only [Sem.run_bind, run_underlying hu, Result.andThen_ok]
    rfl
  · cases h
theorem loadC_run {t : TypeId} {c : Ct} {off k : Nat} {y : SV} {cells : Array Value} {ty : TypeId} (hc : denCt β c = some cells) (hk : W.heap[k]? = some (.cells cells ty))
    (h : loadC P t c off = some y) : ∃ v, den β y = some v ∧ (loadVar t ⟨k, off, none⟩).run P W = .ok v W := by
  unfold loadC at h
  have hl := dens_ctList hc
  split at h
  · rename_i hagg
    split at h
    · rename_i i hi
      have gen : loadGen c off i.size = some y → ∃ v, den β y = some v ∧ (loadVar t ⟨k, off, none⟩).run P W = .ok v W := by
        intro h
        unfold loadGen at h
        split at h
        · rename_i l hp
          cases hb : Nat.beq l.length i.size with
          | false => rw [hb] at h; cases h
          | true =>
            rw [hb] at h
            simp only [cond_true, Option.some.injEq] at h
            subst h
            have hlen : l.length = i.size := Nat.eq_of_beq_eq_true hb
            have hd := dens_plain hp (dens_take i.size (dens_drop off hl))
            refine ⟨_, rfl, ?_⟩
            have hload : (loadCells ⟨k, off, none⟩ l.length).run P W = .ok l.toArray W := by
              refine run_loadCells_list (P := P) W ⟨k, off, none⟩ l (fun j v hv => ?_)
              rw [addr_add, cell_of hk]
              rw [← hd] at hv
              rw [List.getElem?_take] at hv
              split at hv
              · rw [List.getElem?_drop] at hv; simpa using hv
              · cases hv
            rw [hlen] at hload
            simp only [loadVar, Sem.run_bind, isAggT_run hagg, Result.andThen_ok, if_true]
            simp [sizeOf, typeInfo, hi, hload]
        · split at h
          · rename_i l hp
            cases hb : Nat.beq l.length i.size with
            | false => rw [hb] at h; cases h
            | true =>
              rw [hb] at h
              simp only [cond_true, Option.some.injEq] at h
              subst h
              have hlen : l.length = i.size := Nat.eq_of_beq_eq_true hb
              have hd := dens_take i.size (dens_drop off hl)
              rw [dens_tvs (β := β) hp, dens_sv] at hd
              refine ⟨.agg ((cells.toList.drop off).take i.size).toArray, by simp only [den, hd, Option.map_some, cond_false], ?_⟩
              have hlen2 := denTs_length hd
              have hload : (loadCells ⟨k, off, none⟩ ((cells.toList.drop off).take i.size).length).run P W = .ok ((cells.toList.drop off).take i.size).toArray W := by
                refine run_loadCells_list (P := P) W ⟨k, off, none⟩ _ (fun j v hv => ?_)
                rw [addr_add, cell_of hk]
                rw [List.getElem?_take] at hv
                split at hv
                · rw [List.getElem?_drop] at hv; simpa using hv
                · cases hv
              rw [← hlen2, hlen] at hload
              simp only [loadVar, Sem.run_bind, isAggT_run hagg, Result.andThen_ok, if_true]
              simp only [sizeOf, typeInfo, Sem.run_bind, run_program, Result.andThen_ok, hi, Sem.run_pure, hload]
          · cases h
      split at h
      · rename_i x
        cases hw : isWhole x i.size with
        | true =>
          rw [hw] at h
          simp only [cond_true, Option.some.injEq] at h
          subst h
          refine ⟨x, rfl, ?_⟩
          unfold isWhole at hw
          split at hw
          · rename_i cs
            have hsz : cs.size = i.size := Nat.eq_of_beq_eq_true hw
            simp only [denCt, Option.some.injEq, Value.cells] at hc
            subst hc
            have hload : (loadCells ⟨k, 0, none⟩ cs.toList.length).run P W = .ok cs.toList.toArray W := by
              refine run_loadCells_list (P := P) W ⟨k, 0, none⟩ cs.toList (fun j v hv => ?_)
              rw [addr_add, cell_of hk]
              simpa using hv
            simp only [Array.length_toList, hsz, Array.toArray_toList] at hload
            simp only [loadVar, Sem.run_bind, isAggT_run hagg, Result.andThen_ok, if_true]
            simp [sizeOf, typeInfo, hi, hload]
          · cases hw
        | false =>
          rw [hw] at h
          exact gen h
      · exact gen h
    · cases h
  · rename_i hagg
    obtain ⟨v, hv, hx⟩ := dens_get hl h
    refine ⟨v, hv, ?_⟩
    simp only [loadVar, Sem.run_bind, isAggT_run hagg, Result.andThen_ok]
    have hcell : W.cell? ⟨k, off, none⟩ = some v := by rw [cell_of hk]; simpa using hx
    simp [load, Sem.run, hcell]
  · cases h
theorem splice_den {c c' : Ct} {off : Nat} {l' : List SV} {cells : Array Value} {vs : List Value} (hc : denCt β c = some cells) (hl' : dens β l' = some vs) (h : splice c off l' = some c') :
    off + vs.length ≤ cells.size ∧ denCt β c' = some (cells.toList.take off ++ vs ++ cells.toList.drop (off + vs.length)).toArray := by
  unfold splice at h
  have hl := dens_ctList hc
  have e1 := dens_length hl
  have e2 := dens_length hl'
  cases hb : Nat.ble (off + l'.length) (ctList c).length with
  | false => rw [hb] at h; cases h
  | true =>
    rw [hb] at h
    simp only [cond_true, Option.some.injEq] at h
    subst h
    have := Nat.le_of_ble_eq_true hb
    refine ⟨by rw [← e2]; simpa [e1] using this, ?_⟩
    simp only [denCt]
    rw [dens_append (dens_append (dens_take off hl) hl') (dens_drop (off + l'.length) hl), e2]
theorem storeC_run {t : TypeId} {c c' : Ct} {off k : Nat} {y : SV} {v : Value} {cells : Array Value} {ty : TypeId} (hc : denCt β c = some cells) (hy : den β y = some v)
    (hk : W.heap[k]? = some (.cells cells ty)) (h : storeC P t c off y = some c') :
    ∃ cells', denCt β c' = some cells' ∧ (storeVar t ⟨k, off, none⟩ v).run P W = .ok () (W.setRow k cells') := by
  unfold storeC at h
  have hl := dens_ctList hc
  split at h
  · cases h
  · rename_i i hi
    have store : ∀ vs : List Value, v.cells.toList = vs → vs.length = i.size → (∀ x ∈ vs, x.oneCell' = true) → off + vs.length ≤ cells.size →
        (storeVar t ⟨k, off, none⟩ v).run P W = .ok () (W.setRow k (cells.toList.take off ++ vs ++ cells.toList.drop (off + vs.length)).toArray) := by
      intro vs hvs hn h1 hle
      have hs := run_storeCells_at (P := P) k off ty vs 0 cells W hk (by simpa using hle) h1
      have hsz : v.cells.size = i.size := by rw [← hn, ← hvs]; simp
      simp only [Nat.add_zero] at hs
      simp only [storeVar, sizeOf, typeInfo, Sem.run_bind, run_program, Result.andThen_ok, hi, Sem.run_pure, hsz, ne_eq, not_true_eq_false, if_false, hvs, hs]
    split at h
    · rename_i z
      simp only [den, Option.some.injEq] at hy
      subst hy
      cases hb : (Nat.beq z.cells.size i.size && z.cells.toList.all Value.oneCell') with
      | false => rw [hb] at h; cases h
      | true =>
        rw [hb] at h
        simp only [cond_true] at h
        simp only [Bool.and_eq_true] at hb
        have hn : z.cells.size = i.size := Nat.eq_of_beq_eq_true hb.1
        have h1 : ∀ x ∈ z.cells.toList, x.oneCell' = true := List.all_eq_true.1 hb.2
        have spl : ∀ c', splice c off (z.cells.toList.map .v) = some c' → ∃ cells', denCt β c' = some cells' ∧ (storeVar t ⟨k, off, none⟩ z).run P W = .ok () (W.setRow k cells') := by
          intro c' h
          obtain ⟨hle, hd⟩ := splice_den hc (dens_map_v β _) h
          exact ⟨_, hd, store _ rfl (by simpa using hn) h1 hle⟩
        split at h
        · cases hb2 : Nat.beq (ctList c).length i.size with
          | true =>
            rw [hb2] at h
            simp only [cond_true, Option.some.injEq] at h
            subst h
            have hn2 : (ctList c).length = i.size := Nat.eq_of_beq_eq_true hb2
            have e1 := dens_length hl
            simp only [Array.length_toList] at e1
            have := store z.cells.toList rfl (by simpa using hn) h1 (by simp; omega)
            refine ⟨z.cells, rfl, ?_⟩
            rw [this]
            congr 2
            have hdrop : cells.toList.drop (0 + z.cells.toList.length) = [] := by apply List.drop_of_length_le; simp; omega
            rw [hdrop]
            simp
          | false => rw [hb2] at h; exact spl c' h
        · exact spl c' h
    · rename_i l
      simp only [den, Option.map_eq_some_iff, cond_false] at hy
      obtain ⟨vs, hvs, rfl⟩ := hy
      cases hb : (Nat.beq l.length i.size && tvOne l) with
      | false => rw [hb] at h; cases h
      | true =>
        rw [hb] at h
        simp only [cond_true] at h
        simp only [Bool.and_eq_true] at hb
        have hn := Nat.eq_of_beq_eq_true hb.1
        obtain ⟨hle, hd⟩ := splice_den (vs := vs) hc (by rw [dens_sv]; exact hvs) h
        exact ⟨_, hd, store vs (by simp [Value.cells]) (by rw [← denTs_length hvs, hn]) (tvOne_spec hb.2 hvs) hle⟩
    · cases h
    · rename_i hnv hnm hnt
      cases hb : Nat.beq i.size 1 with
      | false => rw [hb] at h; cases h
      | true =>
        rw [hb] at h
        have hn : i.size = 1 := Nat.eq_of_beq_eq_true hb
        have hone : v.cells = #[v] ∧ v.oneCell' = true := by
          cases y with
          | v z => exact absurd rfl (hnv z)
          | ptr b o =>
            simp only [den, adr, Option.map_eq_some_iff] at hy
            obtain ⟨k', _, rfl⟩ := hy
            exact ⟨rfl, rfl⟩
          | fn f cp =>
            simp only [den] at hy
            split at hy
            · simp only [Option.some.injEq] at hy; subst hy; exact ⟨rfl, rfl⟩
            · cases hy
          | yld l =>
            simp only [den, Option.map_eq_some_iff] at hy
            obtain ⟨k', _, rfl⟩ := hy
            exact ⟨rfl, rfl⟩
          | sl b o n c =>
            simp only [den, Option.map_eq_some_iff] at hy
            obtain ⟨k', _, rfl⟩ := hy
            exact ⟨rfl, rfl⟩
          | row r =>
            simp only [den, Option.map_eq_some_iff] at hy
            obtain ⟨k', _, rfl⟩ := hy
            exact ⟨rfl, rfl⟩
          | rp r j o sz =>
            simp only [den, Option.map_eq_some_iff] at hy
            obtain ⟨k', _, rfl⟩ := hy
            exact ⟨rfl, rfl⟩
          | mix t l =>
            cases t with
            | false => exact absurd rfl (hnm l)
            | true => exact absurd rfl (hnt l)
        obtain ⟨hle, hd⟩ := splice_den (vs := [v]) hc (by simp [dens, hy]) h
        exact ⟨_, hd, store [v] (by rw [hone.1]) (by simp [hn]) (by simpa using hone.2) hle⟩
end
end Go.Sx
/-
  A symbolic executor for the model's code, third part: equality, operations as programs that read.
-/
namespace Go.Sx
open Go Go.RowKit
def eqItems (P : Program) (f : Value → Value → Option Bool) (e : TypeId) (c : Nat) (xs ys : Array Value) : List Nat → Option Bool
  | [] => some true
  | [j] => match pureRun P (part e xs (j * c)), pureRun P (part e ys (j * c)) with
    | some a, some b => f a b
    | _, _ => none
  | j :: r => match pureRun P (part e xs (j * c)), pureRun P (part e ys (j * c)) with
    | some a, some b => match f a b, eqItems P f e c xs ys r with
      | some p, some q => some (p && q)
      | _, _ => none
    | _, _ => none
def eqFlds (P : Program) (f : TypeId → Value → Value → Option Bool) (xs ys : Array Value) : List Field → Option Bool
  | [] => some true
  | [fd] => bif fd.name != "_" then
      match pureRun P (part fd.type xs fd.offset), pureRun P (part fd.type ys fd.offset) with
      | some a, some b => f fd.type a b
      | _, _ => none
    else some true
  | fd :: r => bif fd.name != "_" then
      match pureRun P (part fd.type xs fd.offset), pureRun P (part fd.type ys fd.offset) with
      | some a, some b => match f fd.type a b, eqFlds P f xs ys r with
        | some p, some q => some (p && q)
        | _, _ => none
      | _, _ => none
    else eqFlds P f xs ys r
def eqv (P : Program) : Nat → TypeId → Value → Value → Option Bool
  | 0, _, _, _ => none
  | d + 1, t, x, y => match P.underlying t with
    | some .bool => match x, y with
      | .bool a, .bool b => some (a == b)
      | _, _ => none
    | some (.int _) => match x, y with
      | .int k a, .int k' b => bif decide (k = k') then some (a == b) else none
      | _, _ => none
    | some .string => match x, y with
      | .string a, .string b => some (a == b)
      | _, _ => none
    | some (.array n e) => match x, y with
      | .agg xs, .agg ys => match P.info? e with
        | some _ => eqItems P (fun a b => eqv P d e a b) e (P.cellsOf e) xs ys (List.range n)
        | none => none
      | _, _ => none
    | some (.struct fs) => match x, y with
      | .agg xs, .agg ys => bif P.stoodInHeld t then none else eqFlds P (fun u a b => eqv P d u a b) xs ys fs.toList
      | _, _ => none
    | _ => none
section
variable {P : Program} {W : World}
theorem eqItems_run {d : Nat} {e : TypeId} {c : Nat} {xs ys : Array Value} {f : Value → Value → Option Bool} (hf : ∀ a b r, f a b = some r → (Op.equalIn d e a b).run P W = .ok r W) :
    ∀ {l : List Nat} {r : Bool}, eqItems P f e c xs ys l = some r → (Op.eqItems d e c xs ys l).run P W = .ok r W
  | [], r, h => by simp only [eqItems, Option.some.injEq] at h; subst h; rfl
  | [j], r, h => by
    simp only [eqItems] at h
    split at h
    · rename_i a b ha hb
      simp only [Op.eqItems, Sem.run_bind, pureRun_run ha W, pureRun_run hb W, Result.andThen_ok, hf a b r h]
      cases r <;> rfl
    · cases h
  | j :: j' :: l, r, h => by
    simp only [eqItems] at h
    split at h
    · rename_i a b ha hb
      split at h
      · rename_i p q hp hq
        simp only [Option.some.injEq] at h
        subst h
        have ih := eqItems_run hf (l := j' :: l) hq
        rw [Op.eqItems]
        simp only [Sem.run_bind, pureRun_run ha W, pureRun_run hb W, Result.andThen_ok, hf a b p hp]
        cases p
        · rfl
        · simpa using ih
      · cases h
    · cases h
theorem eqFlds_run {d : Nat} {xs ys : Array Value} {f : TypeId → Value → Value → Option Bool} (hf : ∀ u a b r, f u a b = some r → (Op.equalIn d u a b).run P W = .ok r W) :
    ∀ {l : List Field} {r : Bool}, eqFlds P f xs ys l = some r → (Op.eqFields d xs ys l).run P W = .ok r W
  | [], r, h => by simp only [eqFlds, Option.some.injEq] at h; subst h; rfl
  | [fd], r, h => by
    simp only [eqFlds] at h
    cases hn : (fd.name != "_") with
    | false =>
      rw [hn] at h
      simp only [cond_false, Option.some.injEq] at h
      subst h
      have : fd.name = "_" := by simpa using hn
      simp [Op.eqFields, this]
    | true =>
      rw [hn] at h
      simp only [cond_true] at h
      have hne : fd.name ≠ "_" := by simpa using hn
      split at h
      · rename_i a b ha hb
        simp only [Op.eqFields, hne, ne_eq, not_false_eq_true, if_true, Sem.run_bind, pureRun_run ha W, pureRun_run hb W, Result.andThen_ok, hf _ a b r h]
        cases r <;> rfl
      · cases h
  | fd :: fd' :: l, r, h => by
    simp only [eqFlds] at h
    cases hn : (fd.name != "_") with
    | false =>
      rw [hn] at h
      simp only [cond_false] at h
      have : fd.name = "_" := by simpa using hn
      have ih := eqFlds_run hf (l := fd' :: l) h
      rw [Op.eqFields]
      simp only [this, ne_eq, not_true_eq_false, if_false]
      exact ih
    | true =>
      rw [hn] at h
      simp only [cond_true] at h
      have hne : fd.name ≠ "_" := by simpa using hn
      split at h
      · rename_i a b ha hb
        split at h
        · rename_i p q hp hq
          simp only [Option.some.injEq] at h
          subst h
          have ih := eqFlds_run hf (l := fd' :: l) hq
          rw [Op.eqFields]
          simp only [hne, ne_eq, not_false_eq_true, if_true, Sem.run_bind, pureRun_run ha W, pureRun_run hb W, Result.andThen_ok, hf _ a b p hp]
          cases p
          · rfl
          · simpa using ih
        · cases h
      · cases h
theorem eqv_run : ∀ {d : Nat} {t : TypeId} {x y : Value} {r : Bool}, eqv P d t x y = some r → (Op.equalIn d t x y).run P W = .ok r W
  | 0, _, _, _, _, h => by simp [eqv] at h
  | d + 1, t, x, y, r, h => by
    unfold eqv at h
    split at h
    · rename_i hu
      split at h
      · simp only [Option.some.injEq] at h; subst h
        simp [Op.equalIn, run_underlying hu]
      · cases h
    · rename_i k0 hu
      split at h
      · rename_i k a k' b
        cases hk : decide (k = k') with
        | false => rw [hk] at h; cases h
        | true =>
          rw [hk] at h
          simp only [cond_true, Option.some.injEq] at h; subst h
          have : k = k' := of_decide_eq_true hk
          subst this
          simp [Op.equalIn, run_underlying hu]
      · cases h
    · rename_i hu
      split at h
      · simp only [Option.some.injEq] at h; subst h
        simp [Op.equalIn, run_underlying hu]
      · cases h
    · rename_i n e hu
      split at h
      · rename_i xs ys
        split at h
        · rename_i i hi
          rw [run_equalIn_array W d xs ys hu hi]
          exact eqItems_run (fun a b r h => eqv_run h) h
        · cases h
      · cases h
    · rename_i fs hu
      split at h
      · rename_i xs ys
        cases hs : P.stoodInHeld t with
        | true => rw [hs] at h; cases h
        | false =>
          rw [hs] at h
          simp only [cond_false] at h
          have hf : P.fieldsOf t = fs := by simp [Program.fieldsOf, hu]
          rw [run_equalIn_struct W d t xs ys (by rw [hf, hu]) hs, hf]
          exact eqFlds_run (fun u a b r h => eqv_run h) h
      · cases h
    · cases h
end
def Gives (P : Program) (f : FuncId) (args : Array Value) (v : Value) : Prop :=
  ∀ (F : Fence) (n : Nat) (o : Oper) (a : Act) (W : World) (K : Act → World → Prop) (Q : Exit → Act → World → Prop), F.fn = (fun _ => True) → F.depth = none → F.alive = false → LaidG W →
    (∀ W', Below W.heap.size W W' → K (a.put o.dst v) W') → o.uponIn F n P a K Q ((callFunc f args).run P W)
structure Ctr (P : Program) where
  f : FuncId
  pre : List Value → Prop
  val : List Value → Value
  sound : ∀ args, pre args → Gives P f args.toArray (val args)
def findC {P : Program} : List (Ctr P) → Nat → Option (Ctr P)
  | [], _ => none
  | c :: r, f => bif Nat.beq c.f f then some c else findC r f
theorem findC_f {P : Program} : ∀ {l : List (Ctr P)} {f : Nat} {c : Ctr P}, findC l f = some c → c.f = f
  | [], _, _, h => by cases h
  | c :: r, f, c', h => by
    simp only [findC] at h
    cases hb : Nat.beq c.f f with
    | true => rw [hb] at h; simp only [cond_true, Option.some.injEq] at h; subst h; exact Nat.eq_of_beq_eq_true hb
    | false => rw [hb] at h; exact findC_f h
structure RowR (W : World) (q : RowS) (p : RP) : Prop where
  n : p.n = q.n
  cap : q.n ≤ p.cap
  own : q.own = true → p.own = true ∧ p.off = 0 ∧ p.cap ≤ maxLen
  mem : ∃ cells ty fr, W.heap[p.k]? = some (.cells cells ty fr) ∧ (q.own = true → ty = q.ty ∧ fr = (0, 0) ∧ cells.size = p.cap * q.sz) ∧ ∀ j, j < q.n → (q.el j).cells.size = q.sz ∧ ∀ i, i < q.sz → cells[p.off + (j * q.sz + i)]? = (q.el j).cells[i]?
theorem RowR.keep {W W' : World} {q : RowS} {p : RP} (h : RowR W q p) (hk : W'.heap[p.k]? = W.heap[p.k]?) : RowR W' q p :=
  { h with mem := by obtain ⟨cells, ty, fr, hc, h1, h2⟩ := h.mem; exact ⟨cells, ty, fr, hk.trans hc, h1, h2⟩ }
theorem RowR.alien {W : World} {q : RowS} {p : RP} (h : RowR W q p) : RowR W { q with own := false } p :=
  { n := h.n, cap := h.cap, own := fun e => (by cases e), mem := let ⟨cells, ty, fr, hc, _, h2⟩ := h.mem; ⟨cells, ty, fr, hc, fun e => (by cases e), h2⟩ }
inductive DV where
  | v (x : Value)
  | row (q : RowS)
  | at_ (q : RowS)
  | st (l : List Value) (q : RowS)
def Shows (W : World) : DV → Value → Prop
  | .v x, y => y = x
  | .row q, y => ∃ p : RP, y = .slice (some ⟨p.k, p.off, none⟩) p.n p.cap ∧ RowR W { q with own := false } p
  | .at_ q, y => ∃ p : RP, y = .pointer (some ⟨p.k, p.off, none⟩) ∧ RowR W { q with own := false } p
  | .st l q, y => ∃ p : RP, y = .agg (l ++ [Value.slice (some ⟨p.k, p.off, none⟩) p.n p.cap]).toArray ∧ RowR W { q with own := false } p
def ShowsL (W : World) : List DV → List Value → Prop
  | [], [] => True
  | d :: r, x :: l => Shows W d x ∧ ShowsL W r l
  | _, _ => False
def GivesD (P : Program) (f : FuncId) (ds : List DV) (v : Value) : Prop :=
  ∀ (F : Fence) (n : Nat) (o : Oper) (a : Act) (W : World) (K : Act → World → Prop) (Q : Exit → Act → World → Prop) (args : List Value), F.fn = (fun _ => True) → F.depth = none → F.alive = false → LaidG W → ShowsL W ds args →
    (∀ W', Below W.heap.size W W' → K (a.put o.dst v) W') → o.uponIn F n P a K Q ((callFunc f args.toArray).run P W)
structure CtrD (P : Program) where
  f : FuncId
  pre : List DV → Prop
  val : List DV → Value
  sound : ∀ ds, pre ds → GivesD P f ds (val ds)
def findD {P : Program} : List (CtrD P) → Nat → Option (CtrD P)
  | [], _ => none
  | c :: r, f => bif Nat.beq c.f f then some c else findD r f
theorem findD_f {P : Program} : ∀ {l : List (CtrD P)} {f : Nat} {c : CtrD P}, findD l f = some c → c.f = f
  | [], _, _, h => by cases h
  | c :: r, f, c', h => by
    simp only [findD] at h
    cases hb : Nat.beq c.f f with
    | true => rw [hb] at h; simp only [cond_true, Option.some.injEq] at h; subst h; exact Nat.eq_of_beq_eq_true hb
    | false => rw [hb] at h; exact findD_f h
def GivesR (P : Program) (f : FuncId) (ds : List DV) (q : RowS) (vs : List Value) : Prop :=
  ∀ (F : Fence) (n : Nat) (o : Oper) (a : Act) (W : World) (K : Act → World → Prop) (Q : Exit → Act → World → Prop) (args : List Value), F.fn = (fun _ => True) → F.depth = none → F.alive = false → LaidG W → ShowsL W ds args →
    (∀ W' p, Below W.heap.size W W' → W.heap.size ≤ p.k → RowR W' q p → K (a.put o.dst (.tuple (.slice (some ⟨p.k, p.off, none⟩) p.n p.cap :: vs).toArray)) W') → o.uponIn F n P a K Q ((callFunc f args.toArray).run P W)
structure CtrR (P : Program) where
  f : FuncId
  pre : List DV → Prop
  row : List DV → RowS
  val : List DV → List Value
  sound : ∀ ds, pre ds → GivesR P f ds (row ds) (val ds)
def findR {P : Program} : List (CtrR P) → Nat → Option (CtrR P)
  | [], _ => none
  | c :: r, f => bif Nat.beq c.f f then some c else findR r f
theorem findR_f {P : Program} : ∀ {l : List (CtrR P)} {f : Nat} {c : CtrR P}, findR l f = some c → c.f = f
  | [], _, _, h => by cases h
  | c :: r, f, c', h => by
    simp only [findR] at h
    cases hb : Nat.beq c.f f with
    | true => rw [hb] at h; simp only [cond_true, Option.some.injEq] at h; subst h; exact Nat.eq_of_beq_eq_true hb
    | false => rw [hb] at h; exact findR_f h
structure Cts (P : Program) where
  v : List (Ctr P)
  d : List (CtrD P)
  r : List (CtrR P)
instance {P : Program} : Coe (List (Ctr P)) (Cts P) := ⟨fun l => ⟨l, [], []⟩⟩
def decB : Dec → Bool
  | .b true => true
  | _ => false
def isConst : Operand → Bool
  | .const _ => true
  | _ => false
def rdP {α : Type} : Option α → Rd α
  | some a => .ret a
  | none => .stop
def capsOf : List Operand → Rd (List (Nat × Nat))
  | [] => .ret []
  | x :: r => (rdX x).bind fun
    | .ptr b o => (capsOf r).bind fun l => .ret ((b, o) :: l)
    | _ => .stop
def placeAt (ix : Value) (len : Nat) (dec : Dec) : Option (Nat × List Prop) :=
  match ix with
  | .int _ i => match dec with
    | .n j => bif Nat.blt j len then some (j, [i = (j : Int)]) else none
    | _ => match i with
      | .ofNat j => bif Nat.blt j len then some (j, []) else none
      | _ => none
  | _ => none
def placeR (ix : Value) (len : Nat) (dec : Dec) : Option (Nat × List Prop) :=
  match ix with
  | .int _ i => match dec with
    | .n j => some (j, [i = (j : Int), j < len])
    | _ => match i with
      | .ofNat j => some (j, [j < len])
      | _ => none
  | _ => none
def rowLoad (P : Program) (t : TypeId) (q : RowS) (j off sz : Nat) : Option Value :=
  bif Nat.beq sz q.sz then
    match isAggT P t with
    | some true => match P.info? t with
      | some i => match off with
        | 0 => bif Nat.beq i.size sz && isWhole (q.el j) sz then some (q.el j) else
            (bif Nat.ble i.size sz then some (.agg (((q.el j).cells.toList).take i.size).toArray) else none)
        | off => bif Nat.ble (off + i.size) sz then some (.agg ((((q.el j).cells.toList).drop off).take i.size).toArray) else none
      | none => none
    | some false => (bif Nat.blt off sz then (q.el j).cells.toList[off]? else none)
    | none => none
  else none
def rowPut (P : Program) (t : TypeId) (q : RowS) (j off sz : Nat) (z : Value) : Option RowS :=
  match P.info? t, q.el j with
  | some i, .agg cs => bif q.own && (Nat.beq sz q.sz && (Nat.beq cs.size sz && (Nat.beq z.cells.size i.size && (z.cells.toList.all Value.oneCell' && Nat.ble (off + i.size) sz)))) then
      some { q with el := fun k => bif Nat.beq k j then .agg (cs.toList.take off ++ (z.cells.toList ++ cs.toList.drop (off + i.size))).toArray else q.el k }
    else none
  | _, _ => none
def slEl (P : Program) (ty : TypeId) (sz : Nat) (vs : List Value) (off n : Nat) : Option (Nat → Value) :=
  bif Nat.ble (off + n * sz) vs.length then
    match isAggT P ty with
    | some true => some fun j => .agg ((vs.drop (off + j * sz)).take sz).toArray
    | some false => bif Nat.beq sz 1 && ((vs.drop off).take n).all Value.oneCell' then some fun j => vs.getD (off + j) undef else none
    | none => none
  else none
def agOf : List TV → Option (List Value × Nat)
  | [.row r] => some ([], r)
  | .v x :: l => match agOf l with
    | some (vs, r) => some (x :: vs, r)
    | none => none
  | _ => none
def rdD (P : Program) (x : Operand) : Rd DV := (rdX x).bind fun
  | .v y => .ret (.v y)
  | .fn f [] => .ret (.v (.func (.func f) #[] #[]))
  | .row r => (rdR r).bind fun q => .ret (.row { q with own := false })
  | .mix false l => match agOf l with
    | some (vs, r) => (rdR r).bind fun q => .ret (.st vs { q with own := false })
    | none => .stop
  | .sl b off n cap => bif Nat.ble n cap then (rdB b).bind fun (c, ty) => match P.info? ty, plainVs (ctList c) with
    | some i, some vs => (rdP (slEl P ty i.size vs off n)).bind fun el => .ret (.row ⟨ty, i.size, n, el, false⟩)
    | _, _ => .stop
    else .stop
  | _ => .stop
def rdCap (P : Program) (b off : Nat) : Rd DV := (rdB b).bind fun (c, ty) => match P.info? ty, plainVs (ctList c) with
  | some i, some vs => (rdP (slEl P ty i.size vs off 1)).bind fun el => .ret (.at_ ⟨ty, i.size, 1, el, false⟩)
  | _, _ => .stop
def rdCaps (P : Program) : List (Nat × Nat) → Rd (List DV)
  | [] => .ret []
  | (b, off) :: r => (rdCap P b off).bind fun v => (rdCaps P r).bind fun l => .ret (v :: l)
def rdDs (P : Program) : List Operand → Rd (List DV)
  | [] => .ret []
  | x :: r => (rdD P x).bind fun v => (rdDs P r).bind fun l => .ret (v :: l)
def isAddrFree : Value → Bool
  | .bool _ | .int _ _ | .string _ | .float _ _ | .nilIface | .iface _ _ => true
  | _ => false
def plainV (P : Program) (op : BinOp) (t : TypeId) (x y : Operand) (a b : Value) : Option Res :=
  match pureRun P (do eqGuard op t x y a b; binOp op t a b) with
  | some v => some ⟨.v v, [], []⟩
  | none => none
def eqV (P : Program) (op : BinOp) (t : TypeId) (x y : Operand) (a b : Value) : Option Res :=
  match pureRun P (eqGuard op t x y a b), a, eqv P Op.maxDepth t a b with
  | some (), .agg _, some r => match op with
    | .eql => some ⟨.v (.bool r), [], []⟩
    | .neq => some ⟨.v (.bool (!r)), [], []⟩
    | _ => none
  | _, _, _ => none
def shV (op : BinOp) (a b : Value) : Option Res :=
  match a, b with
  | .int k m, .int _ c => match op with
    | .shl => some ⟨.v (.int k (k.wrap (m * 2 ^ (min c.toNat k.bits)))), [], [0 ≤ c]⟩
    | .shr => some ⟨.v (.int k (m.fdiv (2 ^ (min c.toNat k.bits)))), [], [0 ≤ c]⟩
    | _ => none
  | _, _ => none
def divV (op : BinOp) (a b : Value) : Option Res :=
  match a, b with
  | .int k m, .int k' c => bif decide (k = k') then (match op with
    | .quo => some ⟨.v (.int k (k.wrap (m.tdiv c))), [], [c ≠ 0]⟩
    | .rem => some ⟨.v (.int k (m.tmod c)), [], [c ≠ 0]⟩
    | _ => none) else none
  | _, _ => none
def isStr : Value → Bool
  | .string _ => true
  | _ => false
def catV (P : Program) (t : TypeId) (a b : Value) : Option Res :=
  match P.underlying t, a, b with
  | some .string, .string x, .string y => some ⟨.v (.string (x ++ y)), [], [((x.size + y.size : Nat) : Int) ≤ IntKind.i64.max]⟩
  | _, _, _ => none
def strCut (s : ByteArray) : Option Value → Option Value → Option (ByteArray × List Prop)
  | none, none => some (s.extract 0 s.size, [])
  | some (.int _ l), none => some (s.extract l.toNat s.size, [0 ≤ l ∧ l ≤ s.size])
  | none, some (.int _ h) => some (s.extract 0 h.toNat, [0 ≤ h ∧ h ≤ s.size])
  | some (.int _ l), some (.int _ h) => some (s.extract l.toNat h.toNat, [0 ≤ h ∧ h ≤ s.size, 0 ≤ l ∧ l ≤ h.toNat])
  | _, _ => none
def isStrT (P : Program) (t : TypeId) : Bool :=
  match P.underlying t with
  | some .string => true
  | _ => false
def bytesOf : ByteArray → List Value → Option ByteArray
  | s, [] => some s
  | s, .int .u8 n :: r => bytesOf (s.push (UInt8.ofNat n.toNat)) r
  | _, _ => none
def runesOf : ByteArray → List Value → Option ByteArray
  | s, [] => some s
  | s, .int .i32 n :: r => runesOf (s ++ Utf8.encode n) r
  | _, _ => none
def textOf (P : Program) (src dst : TypeId) (l : List Value) : Option ByteArray :=
  match P.underlying src, P.underlying dst with
  | some (.slice e), some .string => match P.underlying e with
    | some (.int .u8) => bytesOf .empty l
    | some (.int .i32) => runesOf .empty l
    | _ => none
  | _, _ => none
def binV (P : Program) (op : BinOp) (t : TypeId) (x y : Operand) (a b : Value) : Option Res :=
  match op with
  | .eql => bif isAddrFree a then plainV P .eql t x y a b else eqV P .eql t x y a b
  | .neq => bif isAddrFree a then plainV P .neq t x y a b else eqV P .neq t x y a b
  | .shl => bif isConst y then plainV P .shl t x y a b else shV .shl a b
  | .shr => bif isConst y then plainV P .shr t x y a b else shV .shr a b
  | .quo => bif isConst y then plainV P .quo t x y a b else divV .quo a b
  | .rem => bif isConst y then plainV P .rem t x y a b else divV .rem a b
  | .add => bif isStr a then catV P t a b else plainV P .add t x y a b
  | op => plainV P op t x y a b
def fallback (P : Program) (o : Oper) : Rd Res :=
  (rdVs o.op.operands.toList).bind fun vs => match pureRun P (execOp (rho o.op.operands.toList vs) o) with
    | some (.value v) => .ret ⟨.v v, [], []⟩
    | _ => .stop
def rdOpt : Option Operand → Rd (Option Value)
  | none => .ret none
  | some x => (rdV x).bind fun v => .ret (some v)
def bsCells (t : TypeId) (len : Nat) (parts : Array (Nat × Value)) : Sem (TypeId × Array Value) := do
  let .slice elem ← underlying t | stuck "buildSlice: slice type expected"
  let size ← sizeOf elem
  if len * size > 2 ^ 24 then unsupported (.resourceLimit "buildSlice: more than 2^24 cells")
  let zero ← if len * size = 0 then pure #[] else do pure (← zeroValue elem).cells
  let some cells := Instr.fill (fun i => some (i * size, size)) ((Array.range (len * size)).map (zero[· % zero.size]!)) parts.toList
    | stuck "buildSlice: a part of the wrong size"
  pure (elem, cells)
def rdParts : List (Nat × Operand) → Rd (List (Nat × Value))
  | [] => .ret []
  | (i, x) :: r => (rdV x).bind fun v => (rdParts r).bind fun l => .ret ((i, v) :: l)
def isSliceT (P : Program) (t : TypeId) : Bool :=
  match P.underlying t with
  | some (.slice _) => true
  | _ => false
def appQ (e : TypeId) (sz : Nat) (q : RowS) (x : Value) : RowS := ⟨e, sz, q.n + 1, fun i => bif Nat.beq i q.n then x else q.el i, true⟩
def rowBase (e : TypeId) (sz : Nat) : SV → Rd (RowS × List Wr)
  | .v (.slice none 0 0) => .ret (⟨e, sz, 0, fun _ => undef, true⟩, [])
  | .row r => (rdR r).bind fun q => bif q.own && (Nat.beq q.ty e && Nat.beq q.sz sz) then .ret (q, [.r r none]) else .stop
  | _ => .stop
def appOk (i : TypeInfo) (z : Value) : Bool := Nat.ble 1 i.size && (Nat.ble i.bytes 100000 && Nat.beq z.cells.size i.size)
def isOne (P : Program) (e : TypeId) (x : Value) (sz : Nat) : Bool := Nat.beq x.cells.size sz && (x.cells.toList.all Value.oneCell' && (match isAggT P e with
  | some true => true
  | _ => Value.oneCell' x))
def appRd (P : Program) (x y : Operand) (t : TypeId) (nm : Nat) : Rd Res :=
  match P.underlying t with
  | some (.slice e) => match P.info? e with
    | some i => match i.zero with
      | some z => bif appOk i z then
          (rdX y).bind fun
          | .sl b off 1 _ => (rdB b).bind fun (c, _) => (rdP (loadC P e c off)).bind fun
            | .v u => bif isOne P e u i.size then
                (rdX x).bind fun sx => (rowBase e i.size sx).bind fun (q, wr) =>
                  bif Nat.blt nm gbase then .get (.u nm) fun
                    | none => .ret ⟨.row nm, wr ++ [.u nm, .r nm (some (appQ e i.size q u))], [q.n < 1000000]⟩
                    | some _ => .stop
                  else .stop
              else .stop
            | _ => .stop
          | _ => .stop
        else .stop
      | none => .stop
    | none => .stop
  | _ => .stop
def cutRow (q : RowS) (l h : Nat) : RowS := { q with n := h - l, el := fun j => q.el (l + j), own := false }
def litNat : Option Value → Option (Option Nat)
  | none => some none
  | some (.int _ (.ofNat j)) => some (some j)
  | _ => none
def strAt (s : ByteArray) (i : Int) : Int := ((s[i.toNat]?).getD 0).toNat
def strIx (P : Program) (t : TypeId) (x ix : Operand) : Option (ByteArray × Operand) :=
  match x with
  | .const (.string s) => match P.underlying t with
    | some .string => bif isConst ix then none else some (s, ix)
    | _ => none
  | _ => none
def ixRd (P : Program) (o : Oper) (j : Nat) : Rd Res :=
  (rdVs o.op.operands.toList).bind fun
    | [x, .int k i] => match pureRun P (execOp (rho o.op.operands.toList [x, .int k (j : Int)]) o) with
      | some (.value v) => .ret ⟨.v v, [], [i = (j : Int)]⟩
      | _ => .stop
    | _ => .stop
def tvCells : SV → Option (List TV)
  | .v y => some (y.cells.toList.map .v)
  | .row r => some [.row r]
  | .mix false l => some l
  | _ => none
def fillT (place : Nat → Option (Nat × Nat)) (cells : List TV) : List (Nat × List TV) → Option (List TV)
  | [] => some cells
  | (i, l) :: r => match place i with
    | none => none
    | some (off, size) => bif Nat.beq l.length size && Nat.ble (off + l.length) cells.length then fillT place (cells.take off ++ (l ++ cells.drop (off + l.length))) r else none
def bdPlaces (t : TypeId) : Sem (Array Value × Array (Nat × Nat)) := do
  let zero := (← zeroValue t).cells
  match ← underlying t with
  | .struct fields =>
    let places ← fields.mapM fun f => do pure (f.offset, ← sizeOf f.type)
    pure (zero, places)
  | _ => stuck "build"
def rdTVParts : List (Nat × Operand) → Rd (List (Nat × List TV))
  | [] => .ret []
  | (i, x) :: r => (rdX x).bind fun y => (rdP (tvCells y)).bind fun c => (rdTVParts r).bind fun l => .ret ((i, c) :: l)
def plainParts : List (Nat × Operand) → Rd Bool
  | [] => .ret true
  | (_, x) :: r => (rdX x).bind fun
    | .row _ => .ret false
    | .mix _ _ => .ret false
    | _ => plainParts r
def vop (P : Program) (cts : Cts P) (o : Oper) (nm : Nat) (dec : Dec) : Rd Res :=
  match o.op with
  | .move x => (rdX x).bind fun y => .ret ⟨y, [], []⟩
  | .assign x => (rdX x).bind fun y => .ret ⟨y, [], []⟩
  | .pick c a b => (rdV c).bind fun
    | .bool true => (rdX a).bind fun y => .ret ⟨y, [], []⟩
    | .bool false => (rdX b).bind fun y => .ret ⟨y, [], []⟩
    | _ => .stop
  | .alloc e => match P.info? e with
    | some i => match i.zero with
      | some z => bif Nat.blt nm gbase then .get (.u nm) fun
        | none => .ret ⟨.ptr nm 0, [.u nm, .b nm (.whole z) e], []⟩
        | some _ => .stop
        else .stop
      | none => .stop
    | none => .stop
  | .box e x => (rdX x).bind fun y => bif Nat.blt nm gbase then .get (.u nm) fun
      | none => .ret ⟨.ptr nm 0, [.u nm, .b nm (ctOf y) e], []⟩
      | some _ => .stop
      else .stop
  | .load t a => match a with
    | .global g => match lookLz lz g with
      | some (v, _) => (rdP (loadC P t (.whole v) 0)).bind fun y => .ret ⟨y, [], []⟩
      | none => .stop
    | a => (rdX a).bind fun
      | .ptr b off => (rdB b).bind fun (c, _) => (rdP (loadC P t c off)).bind fun y => .ret ⟨y, [], []⟩
      | .rp r j off sz => (rdR r).bind fun q => (rdP (rowLoad P t q j off sz)).bind fun y => .ret ⟨.v y, [], [j < q.n]⟩
      | _ => .stop
  | .store t a x => (rdX a).bind fun
    | .ptr b off => (rdX x).bind fun y => (rdB b).bind fun (c, ty) => (rdP (storeC P t c off y)).bind fun c' => .ret ⟨.v undef, [.b b c' ty], []⟩
    | .rp r j off sz => (rdV x).bind fun z => (rdR r).bind fun q => (rdP (rowPut P t q j off sz z)).bind fun q' => .ret ⟨.v undef, [.r r (some q')], [j < q.n]⟩
    | _ => .stop
  | .indexAddr t x ix => (rdX x).bind fun
    | .ptr b off => (rdV ix).bind fun i => match P.underlying t with
      | some (.array len e) => match P.info? e with
        | some inf => (rdP (placeAt i len dec)).bind fun (j, ps) => .ret ⟨.ptr b (off + j * inf.size), [], ps⟩
        | none => .stop
      | _ => .stop
    | .sl b off len _ => (rdV ix).bind fun i => match P.underlying t with
      | some (.slice e) => match P.info? e with
        | some inf => (rdP (placeAt i len dec)).bind fun (j, ps) => .ret ⟨.ptr b (off + j * inf.size), [], ps⟩
        | none => .stop
      | _ => .stop
    | .row r => (rdV ix).bind fun i => match P.underlying t with
      | some (.slice e) => match P.info? e with
        | some inf => (rdR r).bind fun q => bif Nat.beq inf.size q.sz then (rdP (placeR i q.n dec)).bind fun (j, ps) => .ret ⟨.rp r j 0 q.sz, [], ps⟩ else .stop
        | none => .stop
      | _ => .stop
    | .rp r j0 off sz => (rdV ix).bind fun i => match P.underlying t with
      | some (.array len e) => match P.info? e with
        | some inf => (rdP (placeAt i len dec)).bind fun (j, ps) => .ret ⟨.rp r j0 (off + j * inf.size) sz, [], ps⟩
        | none => .stop
      | _ => .stop
    | _ => .stop
  | .slice t x lo hi mx => (rdX x).bind fun
    | .ptr b off => (rdOpt lo).bind fun vl => (rdOpt hi).bind fun vh => (rdOpt mx).bind fun vm => match P.underlying t with
      | some (.array n e) => match P.info? e with
        | some inf => (rdP (pureRun P (Instr.sliceBounds false n n vl vh vm))).bind fun (l, h, m) =>
          bif Nat.beq m l then .stop else .ret ⟨.sl b (off + l * inf.size) (h - l) (m - l), [], []⟩
        | none => .stop
      | _ => .stop
    | .sl b off len cap => (rdOpt lo).bind fun vl => (rdOpt hi).bind fun vh => (rdOpt mx).bind fun vm => match P.underlying t with
      | some (.slice e) => match P.info? e with
        | some inf => (rdP (pureRun P (Instr.sliceBounds true len cap vl vh vm))).bind fun (l, h, m) =>
          .ret ⟨.sl b (bif Nat.beq m l then off else off + l * inf.size) (h - l) (m - l), [], []⟩
        | none => .stop
      | _ => .stop
    | .row r => match mx with
      | some _ => .stop
      | none => (rdOpt lo).bind fun vl => (rdOpt hi).bind fun vh => match litNat vl, litNat vh with
        | some l, some h => match P.underlying t with
          | some (.slice e) => match P.info? e with
            | some inf => (rdR r).bind fun q => bif Nat.beq inf.size q.sz then
                bif Nat.blt nm gbase then .get (.u nm) fun
                  | none => .ret ⟨.row nm, [.r r (some { q with own := false }), .u nm, .r nm (some (cutRow q (l.getD 0) (h.getD q.n)))], [l.getD 0 ≤ h.getD q.n, h.getD q.n ≤ q.n]⟩
                  | some _ => .stop
                else .stop
              else .stop
            | none => .stop
          | _ => .stop
        | _, _ => .stop
    | .v (.string s) => match mx with
      | some _ => .stop
      | none => (rdOpt lo).bind fun vl => (rdOpt hi).bind fun vh => bif isStrT P t then (rdP (strCut s vl vh)).bind fun (r, ps) => .ret ⟨.v (.string r), [], ps⟩ else .stop
    | _ => fallback P o
  | .sliceToArrayPointer t x => (rdX x).bind fun
    | .sl b off len _ => match P.underlying t with
      | some (.array n _) => bif Nat.ble n len then .ret ⟨.ptr b off, [], []⟩ else .stop
      | _ => .stop
    | _ => .stop
  | .buildSlice t len parts => (rdParts parts.toList).bind fun ps => (rdP (pureRun P (bsCells t len ps.toArray))).bind fun (e, cells) =>
    bif Nat.blt nm gbase then .get (.u nm) fun
      | none => match dec with
        | .b true => match P.info? e with
          | some i => (rdP (slEl P e i.size cells.toList 0 len)).bind fun el =>
            bif Nat.beq cells.size (len * i.size) && Nat.ble len 100000 then .ret ⟨.row nm, [.u nm, .r nm (some ⟨e, i.size, len, el, true⟩)], []⟩ else .stop
          | none => .stop
        | _ => .ret ⟨.sl nm 0 len len, [.u nm, .b nm (.parts (cells.toList.map .v)) e], []⟩
      | some _ => .stop
      else .stop
  | .fieldAddr s x f => (rdX x).bind fun
    | .ptr b off => match P.underlying s with
      | some (.struct fs) => match fs[f]? with
        | some fd => match P.info? fd.type with
          | some inf => bif Nat.beq inf.size 0 then .stop else .ret ⟨.ptr b (off + fd.offset), [], []⟩
          | none => .stop
        | none => .stop
      | _ => .stop
    | .rp r j off sz => match P.underlying s with
      | some (.struct fs) => match fs[f]? with
        | some fd => match P.info? fd.type with
          | some inf => bif Nat.beq inf.size 0 then .stop else .ret ⟨.rp r j (off + fd.offset) sz, [], []⟩
          | none => .stop
        | none => .stop
      | _ => .stop
    | _ => .stop
  | .build t parts => (plainParts parts.toList).bind fun
    | true => fallback P o
    | false => (rdP (pureRun P (bdPlaces t))).bind fun (z, pl) => (rdTVParts parts.toList).bind fun ps => (rdP (fillT (fun i => pl[i]?) (z.toList.map .v) ps)).bind fun l => .ret ⟨.mix false l, [], []⟩
  | .nilCheck x => (rdX x).bind fun
    | .ptr b off => .ret ⟨.ptr b off, [], []⟩
    | _ => fallback P o
  | .extract x i => (rdX x).bind fun
    | .mix true l => (rdP (l[i]?)).bind fun y => .ret ⟨y.sv, [], []⟩
    | _ => fallback P o
  | .makeFunc (.func f) first caps => match first.toList with
    | [] => (capsOf caps.toList).bind fun l => .ret ⟨.fn f l, [], []⟩
    | _ => .stop
  | .binOp op t x y _ => (rdV x).bind fun a => (rdV y).bind fun b => rdP (binV P op t x y a b)
  | .call c => match c.callee with
    | .value f => (rdX f).bind fun
      | .fn g [] => match (bif decB dec then findR cts.r g else none), findC cts.v g with
        | some ct, _ => (rdDs P c.args.toList).bind fun vs => bif Nat.blt nm gbase then .get (.u nm) fun
            | none => .ret ⟨.mix true (.row nm :: (ct.val vs).map .v), [.u nm, .r nm (some (ct.row vs))], [ct.pre vs]⟩
            | some _ => .stop
            else .stop
        | none, some ct => (rdVs c.args.toList).bind fun vs => .ret ⟨.v (ct.val vs), [], [ct.pre vs]⟩
        | none, none => (rdP (findD cts.d g)).bind fun ct => (rdDs P c.args.toList).bind fun vs => .ret ⟨.v (ct.val vs), [], [ct.pre vs]⟩
      | .fn g (cp :: cr) => (rdP (findD cts.d g)).bind fun ct => (rdDs P c.args.toList).bind fun vs => (rdCaps P (cp :: cr)).bind fun ws => .ret ⟨.v (ct.val (vs ++ ws)), [], [ct.pre (vs ++ ws)]⟩
      | _ => .stop
    | .builtin b => match b, c.args.toList, c.argTypes.toList with
      | .len, [x], [t] => bif isSliceT P t then (rdX x).bind fun
          | .sl _ _ n _ => .ret ⟨.v (.int .i64 n), [], []⟩
          | .row r => (rdR r).bind fun q => .ret ⟨.v (.int .i64 q.n), [], []⟩
          | _ => fallback P o
        else fallback P o
      | .append, [x, y], [t, t'] => bif Nat.beq t t' then appRd P x y t nm else .stop
      | _, _, _ => fallback P o
    | .invoke _ _ => .stop
  | .select _ _ => .stop
  | .index t x ix => match strIx P t x ix with
    | some (s, ix) => (rdV ix).bind fun
      | .int _ i => .ret ⟨.v (.int .u8 (strAt s i)), [], [0 ≤ i ∧ i < s.size]⟩
      | _ => .stop
    | none => bif isStrT P t && !isConst x then (rdV x).bind fun
        | .string s => (rdV ix).bind fun
          | .int _ i => .ret ⟨.v (.int .u8 (strAt s i)), [], [0 ≤ i ∧ i < s.size]⟩
          | _ => .stop
        | _ => .stop
      else match dec with
      | .n j => ixRd P o j
      | _ => fallback P o
  | .convert src dst x => (rdX x).bind fun
    | .sl b off n _ => (rdB b).bind fun (c, _) => match plainVs (ctList c) with
      | some vs => bif Nat.beq (((vs.drop off).take n).length) n then (rdP (textOf P src dst ((vs.drop off).take n))).bind fun r => .ret ⟨.v (.string r), [], []⟩ else .stop
      | none => .stop
    | _ => fallback P o
  | .range t x => (rdV x).bind fun
    | .string s => bif isStrT P t && Nat.blt nm gbase then .get (.u nm) fun
        | none => .ret ⟨.ptr nm 0, [.u nm, .b nm (.iter s 0) 0], []⟩
        | some _ => .stop
        else .stop
    | _ => .stop
  | .next x isS => match isS with
    | true => (rdX x).bind fun
      | .ptr b off => match off with
        | 0 => (rdI b).bind fun (s, p, ty) => match dec with
          | .b true => .ret ⟨.v (.tuple #[.bool true, .int .i64 p, .int .i32 ((Utf8.decode s p).1 : Int)]), [.b b (.iter s (p + (Utf8.decode s p).2)) ty], [p < s.size]⟩
          | _ => .ret ⟨.v (.tuple #[.bool false]), [], [¬ p < s.size]⟩
        | _ => .stop
      | _ => .stop
    | false => .stop
  | _ => fallback P o
end Go.Sx
/-
  A symbolic executor for the model's code, fourth part: the relation between a symbolic state and a run, and one operation's rightness.
-/
namespace Go.Sx
open Go Go.RowKit
structure LoopR (β : Ren) (q : LoopS) (r : Loop) : Prop where
  st : r.state = q.st
  pend : r.pending = q.pend
  params : r.params = q.params.toArray
  asg : r.assign = q.asg
  body : r.body = q.body
  size : r.tmps.size = q.N
  ts : ∀ t x, look q.ts t = some x → ∃ v, den β x = some v ∧ r.tmps[t]? = some v
def mark (k : Nat) : Deferred := { target := .collected k, args := #[] }
structure Fr where
  o : Nat → Prop
  k : Nat → Prop
  D : List Deferred
structure R (β : Ren) (w0 : World) (B N : Nat) (O : Fr) (m : Nat) (S : St) (a : Act) (W : World) : Prop where
  ts : ∀ t x, look S.ts t = some x → ∃ v, den β x = some v ∧ a.tmps[t]? = some v
  bs : ∀ b c ty, look S.bs b = some (c, ty) → ∃ k o, β b = some k ∧ denO β c ty = some o ∧ W.heap[k]? = some o
  ls : ∀ l q, look S.ls l = some q → ∃ k r, β l = some k ∧ W.heap[k]? = some (.loop r) ∧ LoopR β q r
  dom : ∀ b k, β b = some k → memN b S.us = true
  lt : ∀ b k, β b = some k → k < W.heap.size
  inj : ∀ b b' k, β b = some k → β b' = some k → b = b'
  glob : ∀ g k, β (gbase + g) = some k → k = g
  rs : ∀ r q, lookR S.rs r = some q → ∃ p, β.r r = some p ∧ RowR W q p
  rb : ∀ r q p, lookR S.rs r = some q → β.r r = some p → ∀ b, β b ≠ some p.k
  ro : ∀ r r' q q' p p', lookR S.rs r = some q → lookR S.rs r' = some q' → β.r r = some p → β.r r' = some p' → r ≠ r' → p.k = p'.k → q.own = false ∧ q'.own = false
  rdom : ∀ r p, β.r r = some p → memN r S.us = true
  rlt : ∀ r p, β.r r = some p → p.k < W.heap.size
  rold : ∀ r p, β.r r = some p → p.own = true → p.k < B → O.k p.k
  rodom : ∀ k, O.k k → ∃ r p, β.r r = some p ∧ p.own = true ∧ p.k = k
  rlz : ∀ x ∈ lz, ∀ r p, β.r r = some p → p.own = true → p.k ≠ x.1
  old : ∀ k, k < B → (∀ b, β b ≠ some k) → (∀ r p, β.r r = some p → p.own = true → p.k ≠ k) → W.heap[k]? = w0.heap[k]?
  nold : ∀ b k, β b = some k → k < B → O.o b
  odom : ∀ b, O.o b → ∃ k, β b = some k
  lzW : LaidG W
  lzn : ∀ x ∈ lz, ∀ b, β b ≠ some x.1
  hB : B ≤ W.heap.size
  os : W.os = w0.os
  tape : W.tape = w0.tape
  output : W.output = w0.output
  size : a.tmps.size = N
  dfr : ∃ ks : List Nat, ks.length = m ∧ a.defers = ks.map mark ++ O.D ∧ ks.Nodup ∧ ∀ k ∈ ks, B ≤ k ∧ ((∀ b, β b ≠ some k) ∧ ∀ r p, β.r r = some p → p.own = true → p.k ≠ k) ∧ W.heap[k]? = some (.deferred (some []))
structure Ext (β β' : Ren) : Prop where
  b : ∀ b k, β b = some k → β' b = some k
  r : ∀ r p, β.r r = some p → β'.r r = some p
instance {β β' : Ren} : CoeFun (Ext β β') fun _ => ∀ b k, β b = some k → β' b = some k := ⟨Ext.b⟩
theorem Ext.refl (β : Ren) : Ext β β := ⟨fun _ _ h => h, fun _ _ h => h⟩
theorem Ext.trans {a b c : Ren} (h : Ext a b) (k : Ext b c) : Ext a c := ⟨fun x y e => k x y (h x y e), fun x y e => k.r x y (h.r x y e)⟩
theorem memN_cons (j : Nat) (r : List Nat) (i : Nat) : memN i (j :: r) = true ↔ j = i ∨ memN i r = true := by
  simp only [memN]
  cases h : Nat.beq j i with
  | true => simp [Nat.eq_of_beq_eq_true h]
  | false => simp [Nat.ne_of_beq_eq_false h]
theorem look_cons {α : Type} (j : Nat) (x : α) (r : List (Nat × α)) (i : Nat) : look ((j, x) :: r) i = if j = i then some x else look r i := by
  simp only [look]
  cases h : Nat.beq j i with
  | true => simp [Nat.eq_of_beq_eq_true h]
  | false => simp [Nat.ne_of_beq_eq_false h]
section mono
variable {β β' : Ren}
theorem adr_mono (hm : Ext β β') {p : Nat × Nat} {v : Value} (h : adr β p = some v) : adr β' p = some v := by
  simp only [adr, Option.map_eq_some_iff] at h ⊢
  obtain ⟨k, hk, rfl⟩ := h
  exact ⟨k, hm _ _ hk, rfl⟩
theorem adrs_mono (hm : Ext β β') : ∀ {l : List (Nat × Nat)} {vs : List Value}, adrs β l = some vs → adrs β' l = some vs
  | [], vs, h => h
  | p :: r, vs, h => by
    simp only [adrs] at h ⊢
    split at h
    · rename_i v l hv hl
      rw [adr_mono hm hv, adrs_mono hm hl]
      exact h
    · cases h
theorem denW_mono (hm : Ext β β') {x : TW} {v : Value} (h : denW β x = some v) : denW β' x = some v := by
  cases x with
  | v y => exact h
  | row r =>
    simp only [denW, Option.map_eq_some_iff] at h ⊢
    obtain ⟨k, hk, rfl⟩ := h
    exact ⟨k, hm.r _ _ hk, rfl⟩
theorem denWs_mono (hm : Ext β β') : ∀ {l : List TW} {vs : List Value}, denWs β l = some vs → denWs β' l = some vs
  | [], vs, h => h
  | p :: r, vs, h => by
    simp only [denWs] at h ⊢
    split at h
    · rename_i v l hv hl
      rw [denW_mono hm hv, denWs_mono hm hl]
      exact h
    · cases h
theorem denT_mono (hm : Ext β β') {x : TV} {v : Value} (h : denT β x = some v) : denT β' x = some v := by
  cases x with
  | ag l =>
    simp only [denT, Option.map_eq_some_iff] at h ⊢
    obtain ⟨vs, hv, rfl⟩ := h
    exact ⟨vs, denWs_mono hm hv, rfl⟩
  | v y => exact h
  | row r =>
    simp only [denT, Option.map_eq_some_iff] at h ⊢
    obtain ⟨k, hk, rfl⟩ := h
    exact ⟨k, hm.r _ _ hk, rfl⟩
theorem denTs_mono (hm : Ext β β') : ∀ {l : List TV} {vs : List Value}, denTs β l = some vs → denTs β' l = some vs
  | [], vs, h => h
  | p :: r, vs, h => by
    simp only [denTs] at h ⊢
    split at h
    · rename_i v l hv hl
      rw [denT_mono hm hv, denTs_mono hm hl]
      exact h
    · cases h
theorem den_mono (hm : Ext β β') {x : SV} {v : Value} (h : den β x = some v) : den β' x = some v := by
  cases x with
  | v y => exact h
  | ptr b o => exact adr_mono hm h
  | fn f c =>
    simp only [den] at h ⊢
    split at h
    · rename_i l hl; rw [adrs_mono hm hl]; exact h
    · cases h
  | yld l =>
    simp only [den, Option.map_eq_some_iff] at h ⊢
    obtain ⟨k, hk, rfl⟩ := h
    exact ⟨k, hm _ _ hk, rfl⟩
  | sl b o n c =>
    simp only [den, Option.map_eq_some_iff] at h ⊢
    obtain ⟨k, hk, rfl⟩ := h
    exact ⟨k, hm _ _ hk, rfl⟩
  | row r =>
    simp only [den, Option.map_eq_some_iff] at h ⊢
    obtain ⟨k, hk, rfl⟩ := h
    exact ⟨k, hm.r _ _ hk, rfl⟩
  | rp r j o sz =>
    simp only [den, Option.map_eq_some_iff] at h ⊢
    obtain ⟨k, hk, rfl⟩ := h
    exact ⟨k, hm.r _ _ hk, rfl⟩
  | mix t l =>
    simp only [den, Option.map_eq_some_iff] at h ⊢
    obtain ⟨k, hk, rfl⟩ := h
    exact ⟨k, denTs_mono hm hk, rfl⟩
theorem dens_mono (hm : Ext β β') : ∀ {l : List SV} {vs : List Value}, dens β l = some vs → dens β' l = some vs
  | [], vs, h => h
  | p :: r, vs, h => by
    simp only [dens] at h ⊢
    split at h
    · rename_i v l hv hl
      rw [den_mono hm hv, dens_mono hm hl]
      exact h
    · cases h
theorem denCt_mono (hm : Ext β β') {c : Ct} {cells : Array Value} (h : denCt β c = some cells) : denCt β' c = some cells := by
  cases c with
  | whole x => exact h
  | parts l =>
    simp only [denCt] at h ⊢
    split at h
    · rename_i vs hv; rw [dens_mono hm hv]; exact h
    · cases h
  | iter s p => cases h
theorem denO_mono (hm : Ext β β') {c : Ct} {ty : TypeId} {o : Obj} (h : denO β c ty = some o) : denO β' c ty = some o := by
  cases c with
  | iter s p => exact h
  | whole x => obtain ⟨cs, h1, rfl⟩ := denO_not h rfl; exact denO_cells (denCt_mono hm h1)
  | parts l => obtain ⟨cs, h1, rfl⟩ := denO_not h rfl; exact denO_cells (denCt_mono hm h1)
theorem LoopR.mono (hm : Ext β β') {q : LoopS} {r : Loop} (h : LoopR β q r) : LoopR β' q r :=
  { h with ts := fun t x hx => by obtain ⟨v, hv, ht⟩ := h.ts t x hx; exact ⟨v, den_mono hm hv, ht⟩ }
end mono
section steps
variable {β : Ren} {w0 : World} {B N : Nat} {O : Fr} {m : Nat} {S : St} {a : Act} {W : World}
theorem R.putT (h : R β w0 B N O m S a W) {d : Nat} {x : SV} {v : Value} (hx : den β x = some v) (hd : d < N) : R β w0 B N O m (S.put (.t d x)) (a.put (some d) v) W :=
  { h with
    ts := fun t y hy => by
      simp only [St.put] at hy
      rw [look_cons] at hy
      have hsz : d < a.tmps.size := by rw [h.size]; exact hd
      by_cases e : d = t
      · subst e
        simp only [if_true, Option.some.injEq] at hy
        subst hy
        exact ⟨v, hx, by simp [Act.put, hsz]⟩
      · rw [if_neg e] at hy
        obtain ⟨u, hu, hg⟩ := h.ts t y hy
        exact ⟨u, hu, by simp [Act.put, Array.getElem?_setIfInBounds_ne e, hg]⟩
    size := by simp [Act.put, h.size]
    dfr := h.dfr }
theorem Below.heap_alloc' (w : World) (o : Obj) {k : Nat} {x : Obj} (h : w.heap[k]? = some x) : (w.alloc o).heap[k]? = some x :=
  (Below.heap_alloc w o k (Array.getElem?_eq_some_iff.1 h).1).trans h
theorem heap_alloc_new (w : World) (o : Obj) : (w.alloc o).heap[w.heap.size]? = some o := by
  show (w.heap.push o)[w.heap.size]? = some o
  simp
theorem R.newObj (h : R β w0 B N O m S a W) {nm : Nat} (o : Obj) (hn : memN nm S.us = false) (hg : nm < gbase) :
    Ext β ⟨fun b => if b = nm then some W.heap.size else β b, β.r⟩ ∧ R ⟨fun b => if b = nm then some W.heap.size else β b, β.r⟩ w0 B N O m { S with us := nm :: S.us } a (W.alloc o) := by
  have hβ : β nm = none := by
    cases hb : β nm with
    | none => rfl
    | some k => have := h.dom nm k hb; rw [hn] at this; cases this
  have hm : Ext β ⟨fun b => if b = nm then some W.heap.size else β b, β.r⟩ := ⟨fun b k hb => by
    by_cases e : b = nm
    · subst e; rw [hβ] at hb; cases hb
    · show (if b = nm then some W.heap.size else β b) = some k
      rw [if_neg e]; exact hb, fun _ _ h => h⟩
  have sh : ∀ b, (⟨fun b => if b = nm then some W.heap.size else β b, β.r⟩ : Ren) b = if b = nm then some W.heap.size else β b := fun _ => rfl
  refine ⟨hm, ?_⟩
  exact {
    rs := fun r q hr => by
      obtain ⟨p, hp, hw⟩ := h.rs r q hr
      exact ⟨p, hp, hw.keep (Below.heap_alloc _ _ _ (h.rlt r p hp))⟩
    rb := fun r q p hr hp b hb => by
      rw [sh] at hb
      by_cases e : b = nm
      · rw [if_pos e] at hb
        have := h.rlt r p hp
        simp only [Option.some.injEq] at hb
        omega
      · rw [if_neg e] at hb; exact h.rb r q p hr hp b hb
    ro := h.ro
    rdom := fun r p hp => by rw [memN_cons]; exact .inr (h.rdom r p hp)
    rlt := fun r p hp => by rw [World.size_alloc]; have := h.rlt r p hp; omega
    rold := h.rold
    rodom := h.rodom
    rlz := h.rlz
    ts := fun t x hx => by obtain ⟨v, hv, ht⟩ := h.ts t x hx; exact ⟨v, den_mono hm hv, ht⟩
    bs := fun b c' ty' hb => by
      obtain ⟨k, cs, hk, hcs, hh⟩ := h.bs b c' ty' hb
      exact ⟨k, cs, hm _ _ hk, denO_mono hm hcs, Below.heap_alloc' _ _ hh⟩
    ls := fun l q hl => by
      obtain ⟨k, r, hk, hh, hr⟩ := h.ls l q hl
      exact ⟨k, r, hm _ _ hk, Below.heap_alloc' _ _ hh, hr.mono hm⟩
    dom := fun b k hb => by
      rw [sh] at hb
      rw [memN_cons]
      by_cases e : b = nm
      · exact .inl e.symm
      · rw [if_neg e] at hb; exact .inr (h.dom b k hb)
    lt := fun b k hb => by
      rw [sh] at hb
      rw [World.size_alloc]
      by_cases e : b = nm
      · rw [if_pos e] at hb; cases hb; omega
      · rw [if_neg e] at hb; have := h.lt b k hb; omega
    inj := fun b b' k hb hb' => by
      rw [sh] at hb hb'
      by_cases e : b = nm <;> by_cases e' : b' = nm
      · rw [e, e']
      · rw [if_pos e] at hb; rw [if_neg e'] at hb'; cases hb; exact absurd (h.lt b' _ hb') (Nat.lt_irrefl _)
      · rw [if_neg e] at hb; rw [if_pos e'] at hb'; cases hb'; exact absurd (h.lt b _ hb) (Nat.lt_irrefl _)
      · rw [if_neg e] at hb; rw [if_neg e'] at hb'; exact h.inj b b' k hb hb'
    glob := fun g k hb => by
      rw [sh] at hb
      rw [if_neg (by omega)] at hb
      exact h.glob g k hb
    old := fun k hk hb hr => by
      rw [Below.heap_alloc _ _ _ (by have := h.hB; omega)]
      exact h.old k hk (fun b hb' => hb b (hm b k hb')) hr
    nold := fun b k hb hk => by
      rw [sh] at hb
      by_cases e : b = nm
      · rw [if_pos e] at hb; cases hb; have := h.hB; omega
      · rw [if_neg e] at hb; exact h.nold b k hb hk
    odom := fun b hb => let ⟨k, hk⟩ := h.odom b hb; ⟨k, hm b k hk⟩
    lzW := fun x hx => let ⟨ty, hz⟩ := h.lzW x hx; ⟨ty, Below.heap_alloc' _ _ hz⟩
    lzn := fun x hx b hb => by
      rw [sh] at hb
      by_cases e : b = nm
      · rw [if_pos e] at hb
        have hb : W.heap.size = x.1 := Option.some.inj hb
        obtain ⟨ty, hz⟩ := h.lzW x hx
        have := (Array.getElem?_eq_some_iff.1 hz).1
        omega
      · rw [if_neg e] at hb; exact h.lzn x hx b hb
    hB := by rw [World.size_alloc]; have := h.hB; omega
    os := h.os
    tape := h.tape
    output := h.output
    size := h.size
    dfr := by
      obtain ⟨ks, h1, h2, h3, h4⟩ := h.dfr
      refine ⟨ks, h1, h2, h3, fun k hk => ?_⟩
      obtain ⟨g1, g2, g3⟩ := h4 k hk
      refine ⟨g1, ⟨fun b hb => ?_, g2.2⟩, Below.heap_alloc' _ _ g3⟩
      rw [sh] at hb
      by_cases e : b = nm
      · rw [if_pos e] at hb; cases hb; exact absurd (Array.getElem?_eq_some_iff.1 g3).1 (Nat.lt_irrefl _)
      · rw [if_neg e] at hb; exact g2.1 b hb }
theorem R.newO (h : R β w0 B N O m S a W) {nm : Nat} {c : Ct} {ob : Obj} {ty : TypeId} (hc : denO β c ty = some ob) (hn : memN nm S.us = false) (hg : nm < gbase) :
    ∃ β', Ext β β' ∧ β' nm = some W.heap.size ∧ R β' w0 B N O m (S.puts [.u nm, .b nm c ty]) a (W.alloc ob) := by
  obtain ⟨hm, hR⟩ := h.newObj ob hn hg
  refine ⟨_, hm, by simp, ?_⟩
  exact { hR with
    bs := fun b c' ty' hb => by
      simp only [St.puts, St.put] at hb
      rw [look_cons] at hb
      by_cases e : nm = b
      · subst e
        simp only [if_true, Option.some.injEq, Prod.mk.injEq] at hb
        obtain ⟨rfl, rfl⟩ := hb
        exact ⟨W.heap.size, ob, by simp, denO_mono hm hc, heap_alloc_new _ _⟩
      · rw [if_neg e] at hb
        exact hR.bs b c' ty' hb
    ts := hR.ts
    ls := hR.ls
    dom := hR.dom
    rdom := hR.rdom
    rs := hR.rs
    rb := hR.rb
    ro := hR.ro
    dfr := hR.dfr }
theorem R.new (h : R β w0 B N O m S a W) {nm : Nat} {c : Ct} {cells : Array Value} {ty : TypeId} (hc : denCt β c = some cells) (hn : memN nm S.us = false) (hg : nm < gbase) :
    ∃ β', Ext β β' ∧ β' nm = some W.heap.size ∧ R β' w0 B N O m (S.puts [.u nm, .b nm c ty]) a (W.alloc (.cells cells ty)) := h.newO (denO_cells hc) hn hg
theorem R.turnObj (h : R β w0 B N O m S a W) {b k : Nat} {o' : Obj} {W' : World} (hk : β b = some k) (hsz : W'.heap.size = W.heap.size)
    (hoth : ∀ j, j ≠ k → W'.heap[j]? = W.heap[j]?) (hnew : W'.heap[k]? = some o') (hos : W'.os = W.os) (htp : W'.tape = W.tape) (hout : W'.output = W.output) {bs' : List (Nat × (Ct × TypeId))} {ls' : List (Nat × LoopS)}
    (hbs : ∀ b2 q, look bs' b2 = some q → b2 ≠ b → look S.bs b2 = some q) (hls : ∀ b2 q, look ls' b2 = some q → b2 ≠ b → look S.ls b2 = some q)
    (hb : ∀ c ty, look bs' b = some (c, ty) → denO β c ty = some o') (hl : ∀ q, look ls' b = some q → ∃ r, o' = .loop r ∧ LoopR β q r) :
    R β w0 B N O m { S with bs := bs', ls := ls' } a W' :=
  { h with
    ts := h.ts
    bs := fun b2 c2 ty2 hq => by
      by_cases e : b2 = b
      · subst e
        exact ⟨k, o', hk, hb c2 ty2 hq, hnew⟩
      · obtain ⟨k2, cs, hk2, hcs, hh2⟩ := h.bs b2 c2 ty2 (hbs _ _ hq e)
        exact ⟨k2, cs, hk2, hcs, by rw [hoth k2 (fun e' => e (h.inj b2 b k (by rw [← e']; exact hk2) hk))]; exact hh2⟩
    ls := fun l q hq => by
      by_cases e : l = b
      · subst e
        obtain ⟨r, rfl, hr⟩ := hl q hq
        exact ⟨k, r, hk, hnew, hr⟩
      · obtain ⟨k2, r, hk2, hh2, hr⟩ := h.ls l q (hls _ _ hq e)
        exact ⟨k2, r, hk2, by rw [hoth k2 (fun e' => e (h.inj l b k (by rw [← e']; exact hk2) hk))]; exact hh2, hr⟩
    dom := h.dom
    lt := fun b2 k2 h2 => by rw [hsz]; exact h.lt b2 k2 h2
    rs := fun r q hr => by
      obtain ⟨p, hp, hw⟩ := h.rs r q hr
      exact ⟨p, hp, hw.keep (hoth p.k (fun e => h.rb r q p hr hp b (by rw [hk, e])))⟩
    rb := h.rb
    ro := h.ro
    rdom := h.rdom
    rlt := fun r p hp => by rw [hsz]; exact h.rlt r p hp
    old := fun k2 hk2 hb2 hr2 => by
      rw [hoth k2 (fun e => hb2 b (by rw [hk, e]))]; exact h.old k2 hk2 hb2 hr2
    lzW := fun x hx => by rw [hoth x.1 (fun e => h.lzn x hx b (by rw [hk, e]))]; exact h.lzW x hx
    hB := by rw [hsz]; exact h.hB
    os := hos.trans h.os
    tape := htp.trans h.tape
    output := hout.trans h.output
    dfr := by
      obtain ⟨ks, h1, h2, h3, h4⟩ := h.dfr
      refine ⟨ks, h1, h2, h3, fun k2 hk2 => ?_⟩
      obtain ⟨g1, g2, g3⟩ := h4 k2 hk2
      exact ⟨g1, g2, by rw [hoth k2 (fun e => g2.1 b (by rw [hk, e]))]; exact g3⟩ }
theorem R.turn (h : R β w0 B N O m S a W) {b k : Nat} {c' : Ct} {cells cells' : Array Value} {ty : TypeId} (hk : β b = some k) (hh : W.heap[k]? = some (.cells cells ty)) (hc' : denCt β c' = some cells') :
    R β w0 B N O m (S.put (.b b c' ty)) a (W.setRow k cells') := by
  refine h.turnObj (bs' := (b, (c', ty)) :: S.bs) (ls' := S.ls) hk (setRow_size _ _ _) (fun j hj => setRow_other _ _ _ _ hj) (setRow_heap W k cells cells' ty _ hh) rfl rfl rfl ?_ (fun _ _ hq _ => hq) ?_ ?_
  · intro b2 q hq hne
    rw [look_cons, if_neg (Ne.symm hne)] at hq
    exact hq
  · intro c ty2 hq
    rw [look_cons, if_pos rfl] at hq
    simp only [Option.some.injEq, Prod.mk.injEq] at hq
    obtain ⟨rfl, rfl⟩ := hq
    exact denO_cells hc'
  · intro q hq
    obtain ⟨k2, r, hk2, hh2, _⟩ := h.ls b q hq
    rw [hk] at hk2
    cases hk2
    rw [hh] at hh2
    cases hh2
theorem R.turnI (h : R β w0 B N O m S a W) {b k : Nat} {s s' : ByteArray} {p p' : Nat} {ty : TypeId} (hk : β b = some k) (hh : W.heap[k]? = some (.stringIter s p)) :
    R β w0 B N O m (S.put (.b b (.iter s' p') ty)) a (W.putObj k (.stringIter s' p')) := by
  have hlt := (Array.getElem?_eq_some_iff.1 hh).1
  refine h.turnObj (bs' := (b, (.iter s' p', ty)) :: S.bs) (ls' := S.ls) hk (by simp) (fun j hj => World.putObj_heap_other hj) (World.putObj_heap_same hlt) rfl rfl rfl ?_ (fun _ _ hq _ => hq) ?_ ?_
  · intro b2 q hq hne
    rw [look_cons, if_neg (Ne.symm hne)] at hq
    exact hq
  · intro c ty2 hq
    rw [look_cons, if_pos rfl] at hq
    simp only [Option.some.injEq, Prod.mk.injEq] at hq
    obtain ⟨rfl, rfl⟩ := hq
    rfl
  · intro q hq
    obtain ⟨k2, r, hk2, hh2, _⟩ := h.ls b q hq
    rw [hk] at hk2
    cases hk2
    rw [hh] at hh2
    cases hh2
theorem R.below (h : R β w0 B N O m S a W) {W' : World} (hb : Below W.heap.size W W') : R β w0 B N O m S a W' :=
  have keep : ∀ {k : Nat} {o : Obj}, W.heap[k]? = some o → W'.heap[k]? = some o := fun hh => (hb.block _ (Array.getElem?_eq_some_iff.1 hh).1).trans hh
  { h with
    ts := h.ts
    bs := fun b c ty hq => by
      obtain ⟨k, cs, hk, hcs, hh⟩ := h.bs b c ty hq
      exact ⟨k, cs, hk, hcs, keep hh⟩
    ls := fun l q hq => by
      obtain ⟨k, r, hk, hh, hr⟩ := h.ls l q hq
      exact ⟨k, r, hk, keep hh, hr⟩
    lt := fun b k hk => Nat.lt_of_lt_of_le (h.lt b k hk) hb.size
    rs := fun r q hr => by
      obtain ⟨p, hp, hw⟩ := h.rs r q hr
      exact ⟨p, hp, hw.keep (hb.block _ (h.rlt r p hp))⟩
    rlt := fun r p hp => Nat.lt_of_lt_of_le (h.rlt r p hp) hb.size
    old := fun k hk hn hr => (hb.block k (by have := h.hB; omega)).trans (h.old k hk hn hr)
    lzW := fun x hx => let ⟨ty, hz⟩ := h.lzW x hx; ⟨ty, keep hz⟩
    hB := Nat.le_trans h.hB hb.size
    os := hb.os.trans h.os
    tape := hb.tape.trans h.tape
    output := hb.output.trans h.output
    dfr := by
      obtain ⟨ks, h1, h2, h3, h4⟩ := h.dfr
      refine ⟨ks, h1, h2, h3, fun k2 hk2 => ?_⟩
      obtain ⟨g1, g2, g3⟩ := h4 k2 hk2
      exact ⟨g1, g2, keep g3⟩ }
theorem R.drew (h : R β w0 B N O m S a W) : R β w0 B N O m S a { W with drawn := W.drawn + 1 } := h.below ⟨rfl, rfl, rfl, Nat.le_refl _, fun _ _ => rfl⟩
theorem lookR_cons (j : Nat) (x : Option RowS) (r : List (Nat × Option RowS)) (i : Nat) : lookR ((j, x) :: r) i = if j = i then x else lookR r i := by
  unfold lookR
  rw [look_cons]
  by_cases e : j = i
  · simp only [if_pos e]; cases x <;> rfl
  · simp only [if_neg e]
theorem R.newRow (h : R β w0 B N O m S a W) {nm : Nat} {q : RowS} {p : RP} {W' : World} (hn : memN nm S.us = false) (hq : RowR W' q p) (hos : W'.os = W.os) (htp : W'.tape = W.tape) (hout : W'.output = W.output) (hsz : W.heap.size ≤ W'.heap.size)
    {rs' : List (Nat × Option RowS)} (hrs : ∀ r x, lookR rs' r = some x → (∃ y, lookR S.rs r = some y ∧ (x = y ∨ x = { y with own := false })))
    (hblk : ∀ k, k < W.heap.size → W'.heap[k]? = W.heap[k]? ∨ ((∃ r p', β.r r = some p' ∧ p'.own = true ∧ p'.k = k) ∧ (∀ r x p', lookR rs' r = some x → β.r r = some p' → p'.k ≠ k) ∧ ∀ b, β b ≠ some k))
    (hpk : p.k < W'.heap.size) (hpo : p.own = true → p.k < W.heap.size → ∃ r p', β.r r = some p' ∧ p'.own = true ∧ p'.k = p.k) (hpb : ∀ b, β b ≠ some p.k)
    (hro : ∀ r x p', lookR rs' r = some x → β.r r = some p' → p'.k = p.k → x.own = false ∧ q.own = false) :
    Ext β ⟨β.b, fun i => if i = nm then some p else β.r i⟩ ∧ R ⟨β.b, fun i => if i = nm then some p else β.r i⟩ w0 B N O m { S with us := nm :: S.us, rs := (nm, some q) :: rs' } a W' := by
  have hβ : β.r nm = none := by
    cases hb : β.r nm with
    | none => rfl
    | some k => have := h.rdom nm k hb; rw [hn] at this; cases this
  have hm : Ext β ⟨β.b, fun i => if i = nm then some p else β.r i⟩ := ⟨fun _ _ h => h, fun i x hi => by
    show (if i = nm then some p else β.r i) = some x
    by_cases e : i = nm
    · subst e; rw [hβ] at hi; cases hi
    · rw [if_neg e]; exact hi⟩
  have sh : ∀ i, (⟨β.b, fun i => if i = nm then some p else β.r i⟩ : Ren).r i = if i = nm then some p else β.r i := fun _ => rfl
  have keepB : ∀ {b k : Nat}, β b = some k → W'.heap[k]? = W.heap[k]? := fun {b k} hb => by
    rcases hblk k (h.lt b k hb) with e | e
    · exact e
    · exact absurd hb (e.2.2 b)
  have old' : ∀ {r : Nat} {x : RowS}, r ≠ nm → lookR ((nm, some q) :: rs') r = some x → lookR rs' r = some x := fun hne hx => by
    rw [lookR_cons, if_neg (Ne.symm hne)] at hx; exact hx
  refine ⟨hm, ?_⟩
  exact {
    ts := fun t x hx => by obtain ⟨v, hv, ht⟩ := h.ts t x hx; exact ⟨v, den_mono hm hv, ht⟩
    bs := fun b c ty hb => by
      obtain ⟨k, cs, hk, hcs, hh⟩ := h.bs b c ty hb
      exact ⟨k, cs, hk, denO_mono hm hcs, (keepB hk).trans hh⟩
    ls := fun l q hl => by
      obtain ⟨k, r, hk, hh, hr⟩ := h.ls l q hl
      exact ⟨k, r, hk, (keepB hk).trans hh, hr.mono hm⟩
    dom := fun b k hb => by rw [memN_cons]; exact .inr (h.dom b k hb)
    lt := fun b k hb => Nat.lt_of_lt_of_le (h.lt b k hb) hsz
    inj := h.inj
    glob := h.glob
    rs := fun r x hx => by
      rw [lookR_cons] at hx
      by_cases e : nm = r
      · rw [if_pos e] at hx
        simp only [Option.some.injEq] at hx
        subst hx
        exact ⟨p, by rw [sh, if_pos e.symm], hq⟩
      · rw [if_neg e] at hx
        obtain ⟨y, hy, hxy⟩ := hrs r x hx
        obtain ⟨p', hp', hw⟩ := h.rs r y hy
        refine ⟨p', by rw [sh, if_neg (Ne.symm e)]; exact hp', ?_⟩
        have hk : W'.heap[p'.k]? = W.heap[p'.k]? := by
          rcases hblk p'.k (h.rlt r p' hp') with e | e
          · exact e
          · exact absurd rfl (e.2.1 r x p' hx hp')
        rcases hxy with rfl | rfl
        · exact hw.keep hk
        · exact hw.alien.keep hk
    rb := fun r x p' hx hp' b => by
      rw [lookR_cons] at hx
      rw [sh] at hp'
      by_cases e : nm = r
      · rw [if_pos e.symm] at hp'
        simp only [Option.some.injEq] at hp'
        subst hp'
        exact hpb b
      · rw [if_neg e] at hx
        rw [if_neg (Ne.symm e)] at hp'
        obtain ⟨y, hy, _⟩ := hrs r x hx
        exact h.rb r y p' hy hp' b
    ro := fun r r' x x' p1 p2 hx hx' hp1 hp2 hne hk => by
      rw [lookR_cons] at hx hx'
      rw [sh] at hp1 hp2
      by_cases e : nm = r
      · subst e
        rw [if_pos rfl] at hx hp1
        rw [if_neg hne] at hx'
        rw [if_neg (Ne.symm hne)] at hp2
        simp only [Option.some.injEq] at hx hp1
        subst hx
        subst hp1
        exact (hro r' x' p2 hx' hp2 hk.symm).symm
      · rw [if_neg e] at hx
        rw [if_neg (Ne.symm e)] at hp1
        by_cases e' : nm = r'
        · subst e'
          rw [if_pos rfl] at hx' hp2
          simp only [Option.some.injEq] at hx' hp2
          subst hx'
          subst hp2
          exact hro r x p1 hx hp1 hk
        · rw [if_neg e'] at hx'
          rw [if_neg (Ne.symm e')] at hp2
          obtain ⟨y, hy, hxy⟩ := hrs r x hx
          obtain ⟨y', hy', hxy'⟩ := hrs r' x' hx'
          obtain ⟨g1, g2⟩ := h.ro r r' y y' p1 p2 hy hy' hp1 hp2 hne hk
          refine ⟨?_, ?_⟩
          · rcases hxy with rfl | rfl <;> first | exact g1 | rfl
          · rcases hxy' with rfl | rfl <;> first | exact g2 | rfl
    rdom := fun r p' hp' => by
      rw [sh] at hp'
      rw [memN_cons]
      by_cases e : r = nm
      · exact .inl e.symm
      · rw [if_neg e] at hp'; exact .inr (h.rdom r p' hp')
    rlt := fun r p' hp' => by
      rw [sh] at hp'
      by_cases e : r = nm
      · rw [if_pos e] at hp'; simp only [Option.some.injEq] at hp'; subst hp'; exact hpk
      · rw [if_neg e] at hp'; exact Nat.lt_of_lt_of_le (h.rlt r p' hp') hsz
    rold := fun r p' hp' ho hlt => by
      rw [sh] at hp'
      by_cases e : r = nm
      · rw [if_pos e] at hp'; simp only [Option.some.injEq] at hp'; subst hp'
        obtain ⟨r0, p0, h1, h2, h3⟩ := hpo ho (Nat.lt_of_lt_of_le hlt h.hB)
        rw [← h3]
        exact h.rold r0 p0 h1 h2 (by rw [h3]; exact hlt)
      · rw [if_neg e] at hp'; exact h.rold r p' hp' ho hlt
    rodom := fun k hk => by
      obtain ⟨r0, p0, h1, h2, h3⟩ := h.rodom k hk
      exact ⟨r0, p0, hm.r _ _ h1, h2, h3⟩
    rlz := fun x hx r p' hp' ho => by
      rw [sh] at hp'
      by_cases e : r = nm
      · rw [if_pos e] at hp'; simp only [Option.some.injEq] at hp'; subst hp'
        rcases Nat.lt_or_ge p.k W.heap.size with hlt | hge
        · obtain ⟨r0, p0, h1, h2, h3⟩ := hpo ho hlt
          rw [← h3]
          exact h.rlz x hx r0 p0 h1 h2
        · intro e2
          obtain ⟨ty, hz⟩ := h.lzW x hx
          have := (Array.getElem?_eq_some_iff.1 hz).1
          omega
      · rw [if_neg e] at hp'; exact h.rlz x hx r p' hp' ho
    old := fun k hk hb hr => by
      have h1 : ∀ r p', β.r r = some p' → p'.own = true → p'.k ≠ k := fun r p' hp' => hr r p' (hm.r _ _ hp')
      have hlt : k < W.heap.size := Nat.lt_of_lt_of_le hk h.hB
      rcases hblk k hlt with e | e
      · exact e.trans (h.old k hk hb h1)
      · obtain ⟨⟨r0, p0, g1, g2, g3⟩, _⟩ := e
        exact absurd g3 (h1 r0 p0 g1 g2)
    nold := h.nold
    odom := h.odom
    lzW := fun x hx => by
      obtain ⟨ty, hz⟩ := h.lzW x hx
      have hlt := (Array.getElem?_eq_some_iff.1 hz).1
      rcases hblk x.1 hlt with e | e
      · exact ⟨ty, e.trans hz⟩
      · obtain ⟨⟨r0, p0, g1, g2, g3⟩, _⟩ := e
        exact absurd g3 (h.rlz x hx r0 p0 g1 g2)
    lzn := h.lzn
    hB := Nat.le_trans h.hB hsz
    os := hos.trans h.os
    tape := htp.trans h.tape
    output := hout.trans h.output
    size := h.size
    dfr := by
      obtain ⟨ks, h1, h2, h3, h4⟩ := h.dfr
      refine ⟨ks, h1, h2, h3, fun k hk => ?_⟩
      obtain ⟨g1, g2, g3⟩ := h4 k hk
      have hlt := (Array.getElem?_eq_some_iff.1 g3).1
      refine ⟨g1, ⟨g2.1, fun r p' hp' ho => ?_⟩, ?_⟩
      · rw [sh] at hp'
        by_cases e : r = nm
        · rw [if_pos e] at hp'; simp only [Option.some.injEq] at hp'; subst hp'
          intro e2
          obtain ⟨r0, p0, f1, f2, f3⟩ := hpo ho (by omega)
          exact g2.2 r0 p0 f1 f2 (by omega)
        · rw [if_neg e] at hp'; exact g2.2 r p' hp' ho
      · rcases hblk k hlt with e | e
        · exact e.trans g3
        · obtain ⟨⟨r0, p0, f1, f2, f3⟩, _⟩ := e
          exact absurd f3 (g2.2 r0 p0 f1 f2) }
theorem rdT_run {t : Nat} {x : SV} {rd : List Loc} (h : R β w0 B N O m S a W) (hr : (rdT t).run S = some (x, rd)) : ∃ v, den β x = some v ∧ a.tmps[t]? = some v := by
  unfold rdT at hr
  simp only [Rd.run, St.get] at hr
  cases hl : look S.ts t with
  | none => simp [hl, Rd.run] at hr
  | some y =>
    simp only [hl, Rd.run, Option.some.injEq, Prod.mk.injEq] at hr
    obtain ⟨rfl, _⟩ := hr
    exact h.ts t y hl
theorem rdB_run {b : Nat} {q : Ct × TypeId} {rd : List Loc} (hr : (rdB b).run S = some (q, rd)) : look S.bs b = some q := by
  unfold rdB at hr
  simp only [Rd.run, St.get] at hr
  cases hl : look S.bs b with
  | none => simp [hl, Rd.run] at hr
  | some y =>
    obtain ⟨c, ty⟩ := y
    simp only [hl] at hr
    cases hc : isIt c with
    | true => simp [hc, Rd.run] at hr
    | false =>
      simp only [hc, Rd.run, Option.some.injEq, Prod.mk.injEq] at hr
      obtain ⟨rfl, _⟩ := hr
      rfl
theorem rdB_cells {b : Nat} {c : Ct} {ty : TypeId} {rd : List Loc} (h : R β w0 B N O m S a W) (hr : (rdB b).run S = some ((c, ty), rd)) : ∃ k cells, β b = some k ∧ denCt β c = some cells ∧ W.heap[k]? = some (.cells cells ty) := by
  have hl := rdB_run hr
  obtain ⟨k, o, hk, ho, hh⟩ := h.bs _ _ _ hl
  have hc : isIt c = false := by
    unfold rdB at hr
    simp only [Rd.run, St.get] at hr
    rw [hl] at hr
    cases hc : isIt c with
    | true => simp [hc, Rd.run] at hr
    | false => rfl
  obtain ⟨cells, h1, rfl⟩ := denO_not ho hc
  exact ⟨k, cells, hk, h1, hh⟩
theorem rdI_run {b : Nat} {s : ByteArray} {p : Nat} {ty : TypeId} {rd : List Loc} (h : R β w0 B N O m S a W) (hr : (rdI b).run S = some ((s, p, ty), rd)) : look S.bs b = some (.iter s p, ty) ∧ ∃ k, β b = some k ∧ W.heap[k]? = some (.stringIter s p) := by
  unfold rdI at hr
  simp only [Rd.run, St.get] at hr
  cases hl : look S.bs b with
  | none => simp [hl, Rd.run] at hr
  | some y =>
    obtain ⟨c, ty'⟩ := y
    simp only [hl] at hr
    cases c with
    | whole x => simp [Rd.run] at hr
    | parts l => simp [Rd.run] at hr
    | iter s' p' =>
      simp only [Rd.run, Option.some.injEq, Prod.mk.injEq] at hr
      obtain ⟨⟨rfl, rfl, rfl⟩, _⟩ := hr
      obtain ⟨k, o, hk, ho, hh⟩ := h.bs _ _ _ hl
      simp only [denO, Option.some.injEq] at ho
      subst ho
      exact ⟨rfl, k, hk, hh⟩
theorem rdR_run {r : Nat} {q : RowS} {rd : List Loc} (hr : (rdR r).run S = some (q, rd)) : lookR S.rs r = some q := by
  unfold rdR at hr
  simp only [Rd.run, St.get] at hr
  cases hl : lookR S.rs r with
  | none => simp [hl, Rd.run] at hr
  | some y =>
    simp only [hl, Rd.run, Option.some.injEq, Prod.mk.injEq] at hr
    obtain ⟨rfl, _⟩ := hr
    rfl
theorem rdX_run {x : Operand} {y : SV} {rd : List Loc} (h : R β w0 B N O m S a W) (hr : (rdX x).run S = some (y, rd)) : den β y = some (a.eval x) := by
  cases x with
  | tmp t =>
    obtain ⟨v, hv, ht⟩ := rdT_run h hr
    rw [hv]
    obtain ⟨h1, h2⟩ := Array.getElem?_eq_some_iff.1 ht
    simp [Act.eval, Array.getD, h1, h2]
  | const c => simp only [rdX, Rd.run, Option.some.injEq, Prod.mk.injEq] at hr; obtain ⟨rfl, _⟩ := hr; rfl
  | func f => simp only [rdX, Rd.run, Option.some.injEq, Prod.mk.injEq] at hr; obtain ⟨rfl, _⟩ := hr; rfl
  | global g =>
    obtain ⟨q, rd1, rd2, h1, h2⟩ := Rd.run_bind hr
    simp only [Rd.run, Option.some.injEq, Prod.mk.injEq] at h2
    obtain ⟨rfl, _⟩ := h2
    obtain ⟨c, ty⟩ := q
    obtain ⟨k, cs, hk, _, _⟩ := h.bs _ _ _ (rdB_run h1)
    have := h.glob g k hk
    subst this
    simp [den, adr, hk, Act.eval]
theorem rdV_run {x : Operand} {y : Value} {rd : List Loc} (h : R β w0 B N O m S a W) (hr : (rdV x).run S = some (y, rd)) : a.eval x = y := by
  obtain ⟨z, rd1, rd2, h1, h2⟩ := Rd.run_bind hr
  have hd := rdX_run h h1
  split at h2
  · simp only [Rd.run, Option.some.injEq, Prod.mk.injEq] at h2
    obtain ⟨rfl, _⟩ := h2
    simpa [den] using hd.symm
  · simp only [Rd.run, Option.some.injEq, Prod.mk.injEq] at h2
    obtain ⟨rfl, _⟩ := h2
    simpa [den, adrs] using hd.symm
  · cases h2
theorem rdVs_run : ∀ {xs : List Operand} {vs : List Value} {rd : List Loc}, R β w0 B N O m S a W → (rdVs xs).run S = some (vs, rd) → vs = xs.map a.eval
  | [], vs, rd, _, hr => by simp only [rdVs, Rd.run, Option.some.injEq, Prod.mk.injEq] at hr; exact hr.1.symm
  | x :: r, vs, rd, h, hr => by
    obtain ⟨v, rd1, rd2, h1, h2⟩ := Rd.run_bind hr
    obtain ⟨l, rd3, rd4, h3, h4⟩ := Rd.run_bind h2
    simp only [Rd.run, Option.some.injEq, Prod.mk.injEq] at h4
    obtain ⟨rfl, _⟩ := h4
    simp [rdV_run h h1, rdVs_run h h3]
theorem rho_eval (a : Act) : ∀ (xs : List Operand) (x : Operand), x ∈ xs → rho xs (xs.map a.eval) x = a.eval x
  | [], x, hx => by simp at hx
  | y :: r, x, hx => by
    have rest : ∀ x, x ∈ r → rho r (r.map a.eval) x = a.eval x := fun x hx => rho_eval a r x hx
    cases y with
    | tmp t =>
      simp only [List.map_cons, rho]
      cases x with
      | tmp u =>
        simp only
        cases hb : Nat.beq t u with
        | true => have := Nat.eq_of_beq_eq_true hb; subst this; rfl
        | false =>
          simp only [cond_false]
          refine rest _ ?_
          rcases List.mem_cons.1 hx with e | e
          · have := Nat.ne_of_beq_eq_false hb; simp only [Operand.tmp.injEq] at e; exact absurd e.symm this
          · exact e
      | _ => rfl
    | const c =>
      simp only [List.map_cons, rho]
      by_cases hr : x ∈ r
      · exact rest x hr
      · have e : x = .const c := (List.mem_cons.1 hx).resolve_right hr
        subst e
        clear hx hr rest
        induction r with
        | nil => rfl
        | cons z r ih => cases z <;> simp only [List.map_cons, rho] <;> first | rfl | exact ih
    | func f =>
      simp only [List.map_cons, rho]
      by_cases hr : x ∈ r
      · exact rest x hr
      · have e : x = .func f := (List.mem_cons.1 hx).resolve_right hr
        subst e
        clear hx hr rest
        induction r with
        | nil => rfl
        | cons z r ih => cases z <;> simp only [List.map_cons, rho] <;> first | rfl | exact ih
    | global g =>
      simp only [List.map_cons, rho]
      by_cases hr : x ∈ r
      · exact rest x hr
      · have e : x = .global g := (List.mem_cons.1 hx).resolve_right hr
        subst e
        clear hx hr rest
        induction r with
        | nil => rfl
        | cons z r ih => cases z <;> simp only [List.map_cons, rho] <;> first | rfl | exact ih
theorem capsOf_run : ∀ {xs : List Operand} {l : List (Nat × Nat)} {rd : List Loc}, R β w0 B N O m S a W → (capsOf xs).run S = some (l, rd) → adrs β l = some (xs.map a.eval)
  | [], l, rd, _, hr => by simp only [capsOf, Rd.run, Option.some.injEq, Prod.mk.injEq] at hr; rw [← hr.1]; rfl
  | x :: r, l, rd, h, hr => by
    obtain ⟨y, rd1, rd2, h1, h2⟩ := Rd.run_bind hr
    have hd := rdX_run h h1
    split at h2
    · rename_i b o
      obtain ⟨l', rd3, rd4, h3, h4⟩ := Rd.run_bind h2
      simp only [Rd.run, Option.some.injEq, Prod.mk.injEq] at h4
      obtain ⟨rfl, _⟩ := h4
      simp only [den] at hd
      simp [adrs, hd, capsOf_run h h3]
    · cases h2
end steps
end Go.Sx
/-
  A symbolic executor for the model's code, fifth part: one operation is right.
-/
namespace Go.Sx
open Go Go.RowKit
structure Loose (F : Fence) : Prop where
  fn : F.fn = fun _ => True
  depth : F.depth = none
  alive : F.alive = false
theorem Loose.wide : Loose Fence.wide := ⟨rfl, rfl, rfl⟩
theorem Loose.inRound {F : Fence} (h : Loose F) (l : Nat) : Loose (F.inRound l) := ⟨h.fn, h.depth, h.alive⟩
section
variable {P : Program} {F : Fence} {n : Nat} {o : Oper} {a : Act} {W W' : World} {K : Act → World → Prop} {Q : Exit → Act → World → Prop}
theorem wpIn_value {v : Value} (hF : Loose F) (hnd : ∀ c, o.op ≠ .defer c) (hv : (execOp a.eval o).run P W = .ok (.value v) W') (hK : K (a.put o.dst v) W') : o.wpIn F n P a W K Q := by
  refine ⟨fun f _ => by rw [hF.fn]; trivial, ?_⟩
  rw [Oper.semAt_eq _ _ _ hnd, hv]
  exact hK
theorem wpIn_skipv (hF : Loose F) (hnd : ∀ c, o.op ≠ .defer c) (hv : (execOp a.eval o).run P W = .ok .skip W') (hK : K (a.put o.dst undef) W') : o.wpIn F n P a W K Q := by
  refine ⟨fun f _ => by rw [hF.fn]; trivial, ?_⟩
  rw [Oper.semAt_eq _ _ _ hnd, hv]
  exact hK
end
section
variable {P : Program} {β : Ren} {w0 : World} {B N : Nat} {O : Fr} {m : Nat} {S : St} {a : Act} {W : World} {cts : Cts P}
theorem rdP_run {α : Type} {q : Option α} {x : α} {rd : List Loc} (h : (rdP q).run S = some (x, rd)) : q = some x := by
  cases q with
  | none => cases h
  | some y => simp only [rdP, Rd.run, Option.some.injEq, Prod.mk.injEq] at h; rw [h.1]
theorem ret_run {α : Type} {y x : α} {rd : List Loc} (h : (Rd.ret y).run S = some (x, rd)) : y = x := by
  simp only [Rd.run, Option.some.injEq, Prod.mk.injEq] at h; exact h.1
theorem denCt_ctOf {y : SV} {v : Value} (h : den β y = some v) : denCt β (ctOf y) = some v.cells := by
  cases y with
  | v x => simp only [den, Option.some.injEq] at h; subst h; rfl
  | ptr b o =>
    simp only [ctOf, denCt, dens, h]
    simp only [den, adr, Option.map_eq_some_iff] at h
    obtain ⟨k, _, rfl⟩ := h
    rfl
  | fn f c =>
    simp only [ctOf, denCt, dens, h]
    simp only [den] at h
    split at h
    · simp only [Option.some.injEq] at h; subst h; rfl
    · cases h
  | yld l =>
    simp only [ctOf, denCt, dens, h]
    simp only [den, Option.map_eq_some_iff] at h
    obtain ⟨k, _, rfl⟩ := h
    rfl
  | sl b o n c =>
    simp only [ctOf, denCt, dens, h]
    simp only [den, Option.map_eq_some_iff] at h
    obtain ⟨k, _, rfl⟩ := h
    rfl
  | row r =>
    simp only [ctOf, denCt, dens, h]
    simp only [den, Option.map_eq_some_iff] at h
    obtain ⟨k, _, rfl⟩ := h
    rfl
  | rp r j o sz =>
    simp only [ctOf, denCt, dens, h]
    simp only [den, Option.map_eq_some_iff] at h
    obtain ⟨k, _, rfl⟩ := h
    rfl
  | mix t l =>
    cases t with
    | true =>
      simp only [ctOf, denCt, dens, h]
      simp only [den, Option.map_eq_some_iff, cond_true] at h
      obtain ⟨k, _, rfl⟩ := h
      rfl
    | false =>
      simp only [den, Option.map_eq_some_iff, cond_false] at h
      obtain ⟨k, hk, rfl⟩ := h
      simp only [ctOf, denCt, dens_sv, hk]
      rfl
theorem fallback_run {o : Oper} {res : Res} {rd : List Loc} (h : R β w0 B N O m S a W) (hns : ∀ cs b, o.op ≠ .select cs b) (hr : (fallback P o).run S = some (res, rd)) :
    ∃ v, (execOp a.eval o).run P W = .ok (.value v) W ∧ res = ⟨.v v, [], []⟩ := by
  unfold fallback at hr
  obtain ⟨vs, rd1, rd2, h1, h2⟩ := Rd.run_bind hr
  have hvs := rdVs_run h h1
  split at h2
  · rename_i v hv
    have := ret_run h2
    refine ⟨v, ?_, this.symm⟩
    have hc : execOp a.eval o = execOp (rho o.op.operands.toList vs) o := execOp_congr o hns (fun x hx => by
      rw [hvs, rho_eval a _ x (by simpa using hx)])
    rw [hc]
    exact pureRun_run hv W
  · cases h2
theorem placeAt_run {ix : Value} {len : Nat} {dec : Dec} {j : Nat} {ps : List Prop} (h : placeAt ix len dec = some (j, ps)) (hp : ∀ p ∈ ps, p) :
    ∃ k, ix = .int k (j : Int) ∧ j < len := by
  unfold placeAt at h
  split at h
  · rename_i k i
    split at h
    · rename_i j'
      cases hb : Nat.blt j' len with
      | false => rw [hb] at h; cases h
      | true =>
        rw [hb] at h
        simp only [cond_true, Option.some.injEq, Prod.mk.injEq] at h
        obtain ⟨rfl, rfl⟩ := h
        have : i = (j' : Int) := hp _ (by simp)
        subst this
        exact ⟨k, rfl, by simpa [Nat.blt_eq] using hb⟩
    · split at h
      · rename_i j'
        cases hb : Nat.blt j' len with
        | false => rw [hb] at h; cases h
        | true =>
          rw [hb] at h
          simp only [cond_true, Option.some.injEq, Prod.mk.injEq] at h
          obtain ⟨rfl, rfl⟩ := h
          exact ⟨k, rfl, by simpa [Nat.blt_eq] using hb⟩
      · cases h
  · cases h
theorem plainV_run {op : BinOp} {t : TypeId} {x y : Operand} {u v : Value} {res : Res} (h : plainV P op t x y u v = some res) :
    ∃ z, res.x = .v z ∧ res.wr = [] ∧ ∀ W, ((do eqGuard op t x y u v; binOp op t u v : Sem Value)).run P W = .ok z W := by
  unfold plainV at h
  split at h
  · rename_i z hz
    simp only [Option.some.injEq] at h
    subst h
    exact ⟨z, rfl, rfl, fun W => pureRun_run hz W⟩
  · cases h
theorem eqV_run {op : BinOp} {t : TypeId} {x y : Operand} {u v : Value} {res : Res} (h : eqV P op t x y u v = some res) :
    ∃ z, res.x = .v z ∧ res.wr = [] ∧ ∀ W, ((do eqGuard op t x y u v; binOp op t u v : Sem Value)).run P W = .ok z W := by
  unfold eqV at h
  split at h
  · rename_i cs r hg he
    have hb : ∀ W, (Op.equal t (.agg cs) v).run P W = .ok r W := fun W => eqv_run he
    split at h
    · simp only [Option.some.injEq] at h; subst h
      refine ⟨.bool r, rfl, rfl, fun W => ?_⟩
      have hbin : binOp .eql t (.agg cs) v = (do pure (.bool (← Op.equal t (.agg cs) v))) := by cases v <;> rfl
      simp only [Sem.run_bind, pureRun_run hg W, Result.andThen_ok, hbin, hb W, Sem.run_pure]
    · simp only [Option.some.injEq] at h; subst h
      refine ⟨.bool (!r), rfl, rfl, fun W => ?_⟩
      have hbin : binOp .neq t (.agg cs) v = (do pure (.bool (!(← Op.equal t (.agg cs) v)))) := by cases v <;> rfl
      simp only [Sem.run_bind, pureRun_run hg W, Result.andThen_ok, hbin, hb W, Sem.run_pure]
    · cases h
  · cases h
theorem shV_run {op : BinOp} {t : TypeId} {x y : Operand} {u v : Value} {res : Res} (h : shV op u v = some res) (hp : ∀ p ∈ res.ps, p) :
    ∃ z, res.x = .v z ∧ res.wr = [] ∧ ∀ W, ((do eqGuard op t x y u v; binOp op t u v : Sem Value)).run P W = .ok z W := by
  unfold shV at h
  split at h
  · rename_i k m k' c
    split at h
    · simp only [Option.some.injEq] at h; subst h
      have h0 : 0 ≤ c := hp _ (by simp)
      refine ⟨_, rfl, rfl, fun W => ?_⟩
      simp [eqGuard, binOp, Op.shift, Int.not_lt.2 h0]
    · simp only [Option.some.injEq] at h; subst h
      have h0 : 0 ≤ c := hp _ (by simp)
      refine ⟨_, rfl, rfl, fun W => ?_⟩
      simp [eqGuard, binOp, Op.shift, Int.not_lt.2 h0]
    · cases h
  · cases h
theorem divV_run {op : BinOp} {t : TypeId} {x y : Operand} {u v : Value} {res : Res} (h : divV op u v = some res) (hp : ∀ p ∈ res.ps, p) :
    ∃ z, res.x = .v z ∧ res.wr = [] ∧ ∀ W, ((do eqGuard op t x y u v; binOp op t u v : Sem Value)).run P W = .ok z W := by
  unfold divV at h
  split at h
  · rename_i k m k' c
    cases hk : decide (k = k') with
    | false => rw [hk] at h; cases h
    | true =>
      rw [hk] at h
      have : k = k' := of_decide_eq_true hk
      subst this
      simp only [cond_true] at h
      split at h
      · simp only [Option.some.injEq] at h; subst h
        have h0 : c ≠ 0 := hp _ (by simp)
        refine ⟨_, rfl, rfl, fun W => ?_⟩
        simp [eqGuard, binOp, Op.intDiv, h0]
      · simp only [Option.some.injEq] at h; subst h
        have h0 : c ≠ 0 := hp _ (by simp)
        refine ⟨_, rfl, rfl, fun W => ?_⟩
        simp [eqGuard, binOp, Op.intDiv, h0]
      · cases h
  · cases h
theorem catV_run {t : TypeId} {x y : Operand} {u v : Value} {res : Res} (h : catV P t u v = some res) (hp : ∀ p ∈ res.ps, p) :
    ∃ z, res.x = .v z ∧ res.wr = [] ∧ ∀ W, ((do eqGuard .add t x y u v; binOp .add t u v : Sem Value)).run P W = .ok z W := by
  unfold catV at h
  split at h
  · rename_i s s' hu
    simp only [Option.some.injEq] at h
    subst h
    refine ⟨_, rfl, rfl, fun W => ?_⟩
    have hle := hp _ List.mem_cons_self
    have hg : (eqGuard .add t x y (.string s) (.string s')).run P W = .ok () W := by simp [eqGuard]
    simp only [Sem.run_bind, hg, Result.andThen_ok]
    simp only [binOp]
    simp only [Op.stringOp, if_neg (Int.not_lt.2 hle)]
    rfl
  · cases h
theorem bytes_fold {P : Program} {W : World} (f : Value → ByteArray → Sem (ForInStep ByteArray)) (hf : ∀ n r, (f (.int .u8 n) r).run P W = .ok (.yield (r.push (UInt8.ofNat n.toNat))) W) : ∀ (l : List Value) (s r : ByteArray), bytesOf s l = some r → (forIn l s f).run P W = .ok r W
  | [], s, r, h => by
    simp only [bytesOf, Option.some.injEq] at h; subst h; rfl
  | v :: l, s, r, h => by
    unfold bytesOf at h
    split at h
    · rename_i e; cases e
    · rename_i s' n l' e
      cases e
      simp only [List.forIn_cons, Sem.run_bind, hf, Result.andThen_ok]
      exact bytes_fold f hf _ _ _ h
    · cases h
theorem runes_fold {P : Program} {W : World} (f : Value → ByteArray → Sem (ForInStep ByteArray)) (hf : ∀ n r, (f (.int .i32 n) r).run P W = .ok (.yield (r ++ Utf8.encode n)) W) : ∀ (l : List Value) (s r : ByteArray), runesOf s l = some r → (forIn l s f).run P W = .ok r W
  | [], s, r, h => by
    simp only [runesOf, Option.some.injEq] at h; subst h; rfl
  | v :: l, s, r, h => by
    unfold runesOf at h
    split at h
    · rename_i e; cases e
    · rename_i s' n l' e
      cases e
      simp only [List.forIn_cons, Sem.run_bind, hf, Result.andThen_ok]
      exact runes_fold f hf _ _ _ h
    · cases h
theorem textOf_run {src dst : TypeId} {l : List Value} {r : ByteArray} {k off cap : Nat} {cells : Array Value} {ty : TypeId} (h : textOf P src dst l = some r) (hk : W.heap[k]? = some (.cells cells ty)) (hl : ∀ j v, l[j]? = some v → cells[off + j]? = some v) :
    (convert src dst (.slice (some ⟨k, off, none⟩) l.length cap)).run P W = .ok (.string r) W := by
  have hload : (loadCells ⟨k, off, none⟩ l.length).run P W = .ok l.toArray W := by
    refine run_loadCells_list (P := P) W ⟨k, off, none⟩ l (fun j v hv => ?_)
    rw [addr_add, cell_of hk]
    exact hl j v hv
  unfold textOf at h
  split at h
  · rename_i e hs hd
    simp only [convert, Sem.run_bind, run_underlying hs, run_underlying hd, Result.andThen_ok]
    split at h
    · rename_i he
      simp only [Sem.run_bind, run_underlying he, Result.andThen_ok, Conv.bytesToString, hload]
      rw [List.forIn_toArray]
      rw [bytes_fold _ (fun n r => by simp [Sem.run_pure]) _ _ _ h]
      rfl
    · rename_i he
      simp only [Sem.run_bind, run_underlying he, Result.andThen_ok, Conv.runesToString, hload]
      rw [List.forIn_toArray]
      rw [runes_fold _ (fun n r => by simp [Sem.run_pure]) _ _ _ h]
      rfl
    · cases h
  · cases h
theorem sliceBound_ok {x : Value} {k : IntKind} {i : Int} {y : Nat} {code : BoundsCode} (hx : x = .int k i) (h : 0 ≤ i ∧ i ≤ y) : (Instr.sliceBound x y code).run P W = .ok i.toNat W := by
  subst hx
  simp only [Instr.sliceBound, asIntOf, Sem.run_bind, Sem.run_pure, Result.andThen_ok, h.1, h.2, and_self, if_true]
theorem isStrT_spec {t : TypeId} (ht : isStrT P t = true) : P.underlying t = some .string := by
  unfold isStrT at ht
  split at ht
  · assumption
  · cases ht
theorem strCut_run {t : TypeId} {s r : ByteArray} {vl vh : Option Value} {ps : List Prop} (h : strCut s vl vh = some (r, ps)) (ht : isStrT P t = true) (hp : ∀ p ∈ ps, p) : (Instr.sliceAt t (.string s) vl vh none).run P W = .ok (.string r) W := by
  have hu := isStrT_spec ht
  simp only [Instr.sliceAt, Instr.slice, Sem.run_bind, run_underlying hu, Result.andThen_ok, Option.isSome_none, Bool.false_eq_true, if_false, Instr.sliceBounds, Sem.run_pure]
  unfold strCut at h
  split at h
  · simp only [Option.some.injEq, Prod.mk.injEq] at h
    obtain ⟨rfl, rfl⟩ := h
    rfl
  · simp only [Option.some.injEq, Prod.mk.injEq] at h
    obtain ⟨rfl, rfl⟩ := h
    simp only [Sem.run_bind, Sem.run_pure, Result.andThen_ok, sliceBound_ok rfl (hp _ List.mem_cons_self)]
  · simp only [Option.some.injEq, Prod.mk.injEq] at h
    obtain ⟨rfl, rfl⟩ := h
    simp only [Sem.run_bind, Sem.run_pure, Result.andThen_ok, sliceBound_ok rfl (hp _ List.mem_cons_self)]
  · simp only [Option.some.injEq, Prod.mk.injEq] at h
    obtain ⟨rfl, rfl⟩ := h
    have h1 := hp _ List.mem_cons_self
    have h2 := hp _ (List.mem_cons_of_mem _ List.mem_cons_self)
    simp only [Sem.run_bind, Sem.run_pure, Result.andThen_ok, sliceBound_ok rfl h1, sliceBound_ok rfl h2]
  · cases h
theorem binV_run {op : BinOp} {t : TypeId} {x y : Operand} {u v : Value} {res : Res} (h : binV P op t x y u v = some res) (hp : ∀ p ∈ res.ps, p) :
    ∃ z, res.x = .v z ∧ res.wr = [] ∧ ∀ W, ((do eqGuard op t x y u v; binOp op t u v : Sem Value)).run P W = .ok z W := by
  unfold binV at h
  cases op <;> dsimp only at h
  case eql => cases hb : isAddrFree u <;> rw [hb] at h <;> first | exact plainV_run h | exact eqV_run h
  case neq => cases hb : isAddrFree u <;> rw [hb] at h <;> first | exact plainV_run h | exact eqV_run h
  case shl => cases hb : isConst y <;> rw [hb] at h <;> first | exact plainV_run h | exact shV_run h hp
  case shr => cases hb : isConst y <;> rw [hb] at h <;> first | exact plainV_run h | exact shV_run h hp
  case quo => cases hb : isConst y <;> rw [hb] at h <;> first | exact plainV_run h | exact divV_run h hp
  case rem => cases hb : isConst y <;> rw [hb] at h <;> first | exact plainV_run h | exact divV_run h hp
  case add => cases hb : isStr u <;> rw [hb] at h <;> first | exact plainV_run h | exact catV_run h hp
  all_goals exact plainV_run h
theorem rdOpt_run {x : Option Operand} {v : Option Value} {rd : List Loc} (h : R β w0 B N O m S a W) (hr : (rdOpt x).run S = some (v, rd)) : v = x.map a.eval := by
  cases x with
  | none => exact (ret_run hr).symm
  | some y =>
    obtain ⟨z, rd1, rd2, h1, h2⟩ := Rd.run_bind hr
    rw [← ret_run h2, Option.map_some, rdV_run h h1]
theorem denTs_map_v {β : Ren} : ∀ l : List Value, denTs β (l.map .v) = some l
  | [] => rfl
  | x :: r => by simp [denTs, denT, denTs_map_v r]
theorem denTs_take {β : Ren} : ∀ {l : List TV} {vs : List Value} (k : Nat), denTs β l = some vs → denTs β (l.take k) = some (vs.take k)
  | _, _, 0, _ => by simp [denTs]
  | [], vs, k + 1, h => by simp only [denTs, Option.some.injEq] at h; subst h; rfl
  | x :: r, vs, k + 1, h => by
    simp only [denTs] at h
    split at h
    · rename_i v l hv hl; simp only [Option.some.injEq] at h; subst h; simp [denTs, hv, denTs_take k hl]
    · cases h
theorem denTs_drop {β : Ren} : ∀ {l : List TV} {vs : List Value} (k : Nat), denTs β l = some vs → denTs β (l.drop k) = some (vs.drop k)
  | _, _, 0, h => by simpa using h
  | [], vs, k + 1, h => by simp only [denTs, Option.some.injEq] at h; subst h; rfl
  | x :: r, vs, k + 1, h => by
    simp only [denTs] at h
    split at h
    · rename_i v l hv hl; simp only [Option.some.injEq] at h; subst h; simpa using denTs_drop k hl
    · cases h
theorem denTs_append {β : Ren} : ∀ {l l' : List TV} {vs vs' : List Value}, denTs β l = some vs → denTs β l' = some vs' → denTs β (l ++ l') = some (vs ++ vs')
  | [], l', vs, vs', h, h' => by simp only [denTs, Option.some.injEq] at h; subst h; simpa using h'
  | x :: r, l', vs, vs', h, h' => by
    simp only [denTs] at h
    split at h
    · rename_i v l hv hl; simp only [Option.some.injEq] at h; subst h; simp [denTs, hv, denTs_append hl h']
    · cases h
theorem tvCells_den {β : Ren} {y : SV} {l : List TV} {v : Value} (h : tvCells y = some l) (hv : den β y = some v) : denTs β l = some v.cells.toList := by
  unfold tvCells at h
  split at h
  · simp only [Option.some.injEq] at h hv; subst h
    simp only [den, Option.some.injEq] at hv; subst hv
    exact denTs_map_v _
  · rename_i r
    simp only [Option.some.injEq] at h; subst h
    simp only [den, Option.map_eq_some_iff] at hv
    obtain ⟨p, hp, rfl⟩ := hv
    simp [denTs, denT, hp, Value.cells]
  · simp only [Option.some.injEq] at h; subst h
    simp only [den, Option.map_eq_some_iff, cond_false] at hv
    obtain ⟨vs, hp, rfl⟩ := hv
    simpa [Value.cells] using hp
  · cases h
theorem fold_set : ∀ (s : List Value) (k off : Nat) (a : Array Value), off + k + s.length ≤ a.size →
    ((s.zipIdx k).foldl (fun cs (c, j) => cs.setIfInBounds (off + j) c) a).toList = a.toList.take (off + k) ++ (s ++ a.toList.drop (off + k + s.length))
  | [], k, off, a, _ => by simp
  | x :: r, k, off, a, h => by
    rw [List.zipIdx_cons, List.foldl_cons, fold_set r (k + 1) off _ (by simp at h ⊢; omega)]
    simp only [List.length_cons] at h
    simp only [Array.toList_setIfInBounds]
    have hl : off + k < a.toList.length := by simp; omega
    rw [show off + (k + 1) = off + k + 1 by omega, List.take_set, List.drop_set_of_lt (by omega), show off + k + 1 + r.length = off + k + (x :: r).length by simp; omega]
    have : (List.take (off + k + 1) a.toList).set (off + k) x = a.toList.take (off + k) ++ [x] := by
      rw [List.take_succ_eq_append_getElem hl]
      rw [List.set_append_right _ _ (by simp; omega)]
      simp
      rw [Nat.min_eq_left (by simp at hl; omega)]; simp
    rw [this]; simp
theorem fillT_fill {β : Ren} {place : Nat → Option (Nat × Nat)} : ∀ {ps : List (Nat × List TV)} {vs : List (Nat × Value)} {cells : List TV} {cv : Array Value} {out : List TV}, ps.length = vs.length → (∀ (i : Nat) (p : Nat × List TV) (v : Nat × Value), ps[i]? = some p → vs[i]? = some v → p.1 = v.1 ∧ denTs β p.2 = some v.2.cells.toList) → denTs β cells = some cv.toList → fillT place cells ps = some out → ∃ ov : Array Value, denTs β out = some ov.toList ∧ Instr.fill place cv vs = some ov
  | [], [], cells, cv, out, _, _, hc, h => by
    simp only [fillT, Option.some.injEq] at h; subst h
    exact ⟨cv, hc, rfl⟩
  | (i, l) :: r, (j, v) :: vs, cells, cv, out, hlen, hrel, hc, h => by
    obtain ⟨e1, e2⟩ := hrel 0 _ _ rfl rfl
    simp only at e1 e2
    subst e1
    simp only [fillT] at h
    split at h
    · cases h
    · rename_i off size hp
      cases hb : (Nat.beq l.length size && Nat.ble (off + l.length) cells.length) with
      | false => rw [hb] at h; cases h
      | true =>
        rw [hb] at h
        simp only [cond_true] at h
        simp only [Bool.and_eq_true, Nat.beq_eq, Nat.ble_eq] at hb
        have l1 := denTs_length e2
        have l2 := denTs_length hc
        simp only [Array.length_toList] at l1 l2
        have hst : denTs β (cells.take off ++ (l ++ cells.drop (off + l.length))) = some ((v.cells.zipIdx.foldl (fun cs (c, j) => cs.setIfInBounds (off + j) c) cv).toList) := by
          have := fold_set v.cells.toList 0 off cv (by simp; omega)
          have e : (v.cells.zipIdx.foldl (fun cs (c, j) => cs.setIfInBounds (off + j) c) cv) = ((v.cells.toList.zipIdx 0).foldl (fun cs (c, j) => cs.setIfInBounds (off + j) c) cv) := by
            rw [← Array.foldl_toList, Array.toList_zipIdx]
          rw [e, this]
          simp only [Nat.add_zero, Array.length_toList]
          rw [← l1]
          exact denTs_append (denTs_take _ hc) (denTs_append e2 (denTs_drop _ hc))
        obtain ⟨ov, h1, h2⟩ := fillT_fill (by simpa using hlen) (fun i p v hp hv => hrel (i + 1) p v (by simpa using hp) (by simpa using hv)) hst h
        refine ⟨ov, h1, ?_⟩
        simp only [Instr.fill, hp]
        rw [if_neg (by simp; omega)]
        exact h2
  | [], _ :: _, _, _, _, hlen, _, _, _ => by simp at hlen
  | _ :: _, [], _, _, _, hlen, _, _, _ => by simp at hlen
theorem run_build {P : Program} {t : TypeId} {z : Array Value} {pl : Array (Nat × Nat)} {parts : Array (Nat × Value)} {ov : Array Value} (h : pureRun P (bdPlaces t) = some (z, pl)) (hf : Instr.fill (fun i => pl[i]?) z parts.toList = some ov) (W : World) :
    (Instr.build t parts).run P W = .ok (.agg ov) W := by
  have h1 := pureRun_run h W
  unfold bdPlaces at h1
  unfold Instr.build
  simp only [Sem.run_bind] at h1 ⊢
  generalize (zeroValue t).run P W = q at h1 ⊢
  cases q with
  | halt x w => simp [Result.andThen] at h1
  | ok zv w =>
    simp only [Result.andThen_ok] at h1 ⊢
    generalize (underlying t).run P w = q at h1 ⊢
    cases q with
    | halt x w => simp [Result.andThen] at h1
    | ok d w =>
      simp only [Result.andThen_ok] at h1 ⊢
      cases d <;> try (cases h1; done)
      rename_i fields
      simp only [Sem.run_bind] at h1 ⊢
      generalize (Sem.run P (Array.mapM _ fields) w) = q at h1 ⊢
      cases q with
      | halt x w => simp [Result.andThen] at h1
      | ok places w =>
        simp only [Result.andThen_ok, Sem.run_pure, Result.ok.injEq, Prod.mk.injEq] at h1 ⊢
        obtain ⟨⟨rfl, rfl⟩, rfl⟩ := h1
        rw [hf]
        rfl
theorem rdTVParts_run : ∀ {xs : List (Nat × Operand)} {l : List (Nat × List TV)} {rd : List Loc}, R β w0 B N O m S a W → (rdTVParts xs).run S = some (l, rd) →
    l.length = xs.length ∧ ∀ (i : Nat) (p : Nat × List TV) (v : Nat × Value), l[i]? = some p → (xs.map fun (i, x) => (i, a.eval x))[i]? = some v → p.1 = v.1 ∧ denTs β p.2 = some v.2.cells.toList
  | [], l, rd, _, hr => by rw [← ret_run hr]; exact ⟨rfl, fun i p v hp => by simp at hp⟩
  | (i, x) :: r, l, rd, h, hr => by
    obtain ⟨y, rd1, rd2, h1, h2⟩ := Rd.run_bind hr
    obtain ⟨c, rd3, rd4, h3, h4⟩ := Rd.run_bind h2
    obtain ⟨l', rd5, rd6, h5, h6⟩ := Rd.run_bind h4
    rw [← ret_run h6]
    obtain ⟨g1, g2⟩ := rdTVParts_run h h5
    refine ⟨by simp [g1], fun j p v hp hv => ?_⟩
    cases j with
    | zero =>
      simp only [List.getElem?_cons_zero, Option.some.injEq, List.map_cons] at hp hv
      subst hp
      subst hv
      exact ⟨rfl, tvCells_den (rdP_run h3) (rdX_run h h1)⟩
    | succ j => exact g2 j p v (by simpa using hp) (by simpa using hv)
theorem rdParts_run : ∀ {xs : List (Nat × Operand)} {l : List (Nat × Value)} {rd : List Loc}, R β w0 B N O m S a W → (rdParts xs).run S = some (l, rd) → l = xs.map fun (i, x) => (i, a.eval x)
  | [], l, rd, _, hr => by rw [← ret_run hr]; rfl
  | (i, x) :: r, l, rd, h, hr => by
    obtain ⟨v, rd1, rd2, h1, h2⟩ := Rd.run_bind hr
    obtain ⟨l', rd3, rd4, h3, h4⟩ := Rd.run_bind h2
    rw [← ret_run h4, List.map_cons, ← rdV_run h h1, rdParts_run h h3]
theorem run_buildSlice {t : TypeId} {len : Nat} {parts : Array (Nat × Value)} {e : TypeId} {cells : Array Value} (h : pureRun P (bsCells t len parts) = some (e, cells)) (W : World) :
    (Instr.buildSlice t len parts).run P W = .ok (.slice (some ⟨W.heap.size, 0, none⟩) len len) (W.alloc (.cells cells e)) := by
  have h1 := pureRun_run h W
  unfold bsCells at h1
  unfold Instr.buildSlice
  simp only [Sem.run_bind] at h1 ⊢
  generalize (underlying t).run P W = q at h1 ⊢
  cases q with
  | halt x w => simp [Result.andThen] at h1
  | ok d w =>
    simp only [Result.andThen_ok] at h1 ⊢
    cases d <;> try (cases h1; done)
    rename_i elem
    simp only [Sem.run_bind] at h1 ⊢
    generalize (sizeOf elem).run P w = q at h1 ⊢
    cases q with
    | halt x w => simp [Result.andThen] at h1
    | ok size w =>
      simp only [Result.andThen_ok] at h1 ⊢
      by_cases hle : len * size > 2 ^ 24
      · rw [if_pos hle] at h1
        cases h1
      · rw [if_neg hle] at h1 ⊢
        by_cases hz : len * size = 0
        · rw [if_pos hz] at h1 ⊢
          simp only [Sem.run_bind, Sem.run_pure, Result.andThen_ok] at h1 ⊢
          generalize Instr.fill _ _ _ = q at h1 ⊢
          cases q with
          | none => cases h1
          | some cs =>
            simp only [Sem.run_pure, Result.ok.injEq, Prod.mk.injEq] at h1
            obtain ⟨⟨rfl, rfl⟩, rfl⟩ := h1
            rfl
        · rw [if_neg hz] at h1 ⊢
          simp only [Sem.run_bind] at h1 ⊢
          generalize (zeroValue elem).run P w = q at h1 ⊢
          cases q with
          | halt x w => cases h1
          | ok zero w =>
            simp only [Result.andThen_ok, Sem.run_pure] at h1 ⊢
            generalize Instr.fill _ _ _ = q at h1 ⊢
            cases q with
            | none => cases h1
            | some cs =>
              simp only [Sem.run_pure, Result.ok.injEq, Prod.mk.injEq] at h1
              obtain ⟨⟨rfl, rfl⟩, rfl⟩ := h1
              rfl
theorem slEl_spec {ty : TypeId} {sz : Nat} {vs : List Value} {off n : Nat} {el : Nat → Value} (h : slEl P ty sz vs off n = some el) :
    off + n * sz ≤ vs.length ∧ ∀ j, j < n → (el j).cells.size = sz ∧ ∀ i, i < sz → vs[off + (j * sz + i)]? = (el j).cells[i]? := by
  unfold slEl at h
  cases hb : Nat.ble (off + n * sz) vs.length with
  | false => rw [hb] at h; cases h
  | true =>
    rw [hb] at h
    simp only [cond_true] at h
    have hle := Nat.le_of_ble_eq_true hb
    refine ⟨hle, fun j hj => ?_⟩
    have hjs : (j + 1) * sz ≤ n * sz := Nat.mul_le_mul_right _ hj
    rw [Nat.add_mul] at hjs
    split at h
    · simp only [Option.some.injEq] at h; subst h
      refine ⟨by simp [Value.cells]; omega, fun i hi => ?_⟩
      simp only [Value.cells, List.getElem?_toArray, List.getElem?_take, if_pos hi, List.getElem?_drop]
      congr 1
      omega
    · cases hc : (Nat.beq sz 1 && ((vs.drop off).take n).all Value.oneCell') with
      | false => rw [hc] at h; cases h
      | true =>
        rw [hc] at h
        simp only [cond_true, Option.some.injEq] at h
        subst h
        simp only [Bool.and_eq_true] at hc
        have h1 := Nat.eq_of_beq_eq_true hc.1
        subst h1
        have hlt : off + j < vs.length := by omega
        have hone : (vs.getD (off + j) undef).oneCell' = true := by
          refine List.all_eq_true.1 hc.2 _ ?_
          refine List.mem_iff_getElem?.2 ⟨j, ?_⟩
          rw [List.getElem?_take, if_pos hj, List.getElem?_drop]
          simp [List.getD, hlt]
        have hcells : (vs.getD (off + j) undef).cells = #[vs.getD (off + j) undef] := by
          generalize vs.getD (off + j) undef = x at hone
          cases x <;> first | rfl | cases hone
        rw [hcells]
        refine ⟨rfl, fun i hi => ?_⟩
        obtain rfl : i = 0 := by omega
        simp [List.getD, hlt]
    · cases h
theorem rowLoad_run {t : TypeId} {q : RowS} {j off sz : Nat} {y : Value} {p : RP} (hq : RowR W q p) (hj : j < q.n) (h : rowLoad P t q j off sz = some y) : (loadVar t ⟨p.k, p.off + (j * sz + off), none⟩).run P W = .ok y W := by
  unfold rowLoad at h
  cases hb : Nat.beq sz q.sz with
  | false => rw [hb] at h; cases h
  | true =>
    rw [hb] at h
    simp only [cond_true] at h
    have hsz := Nat.eq_of_beq_eq_true hb
    subst hsz
    obtain ⟨cells, _, _, hk, _, hel⟩ := hq.mem
    obtain ⟨hs, hc⟩ := hel j hj
    have part : ∀ (i : TypeInfo) (l : List Value) (off : Nat), isAggT P t = some true → P.info? t = some i → l.length = i.size → off + i.size ≤ q.sz → (∀ x, x < i.size → l[x]? = (q.el j).cells[off + x]?) →
        (loadVar t ⟨p.k, p.off + (j * q.sz + off), none⟩).run P W = .ok (.agg l.toArray) W := by
      intro i l off hagg hi hl hle hx
      have hload : (loadCells ⟨p.k, p.off + (j * q.sz + off), none⟩ l.length).run P W = .ok l.toArray W := by
        refine run_loadCells_list (P := P) W _ l (fun x v hv => ?_)
        have hxl : x < i.size := by rw [← hl]; exact (List.getElem?_eq_some_iff.1 hv).1
        rw [addr_add, cell_of hk, show p.off + (j * q.sz + off) + x = p.off + (j * q.sz + (off + x)) by omega, hc (off + x) (by omega), ← hx x hxl]
        exact hv
      rw [hl] at hload
      simp only [loadVar, Sem.run_bind, isAggT_run hagg, Result.andThen_ok, if_true]
      simp only [sizeOf, typeInfo, Sem.run_bind, run_program, Result.andThen_ok, hi, Sem.run_pure, hload]
    split at h
    · rename_i hagg
      split at h
      · rename_i i hi
        split at h
        · cases hc2 : (Nat.beq i.size q.sz && isWhole (q.el j) q.sz) with
          | true =>
            rw [hc2] at h
            simp only [cond_true, Option.some.injEq] at h
            simp only [Bool.and_eq_true] at hc2
            have hi1 := Nat.eq_of_beq_eq_true hc2.1
            have hw := hc2.2
            unfold isWhole at hw
            split at hw
            · rename_i cs hcs
              rw [hcs] at h hc
              subst h
              have := part i cs.toList 0 hagg hi (by have := Nat.eq_of_beq_eq_true hw; simp; omega) (by omega) (fun x _ => by rw [hcs]; simp [Value.cells])
              simpa using this
            · cases hw
          | false =>
            rw [hc2] at h
            simp only [cond_false] at h
            cases hle : Nat.ble i.size q.sz with
            | false => rw [hle] at h; cases h
            | true =>
              rw [hle] at h
              simp only [cond_true, Option.some.injEq] at h
              subst h
              have := Nat.le_of_ble_eq_true hle
              exact part i _ 0 hagg hi (by simp [hs]; omega) (by omega) (fun x hx => by simp [hx])
        · cases hle : Nat.ble (off + i.size) q.sz with
          | false => rw [hle] at h; cases h
          | true =>
            rw [hle] at h
            simp only [cond_true, Option.some.injEq] at h
            subst h
            have := Nat.le_of_ble_eq_true hle
            exact part i _ off hagg hi (by simp [hs]; omega) this (fun x hx => by simp [hx])
      · cases h
    · rename_i hagg
      cases hlt : Nat.blt off q.sz with
      | false => rw [hlt] at h; cases h
      | true =>
        rw [hlt] at h
        simp only [cond_true] at h
        have hlt : off < q.sz := by simpa [Nat.blt_eq] using hlt
        have hcell : W.cell? ⟨p.k, p.off + (j * q.sz + off), none⟩ = some y := by
          rw [cell_of hk, hc off hlt]
          simpa using h
        simp only [loadVar, Sem.run_bind, isAggT_run hagg, Result.andThen_ok]
        simp [load, Sem.run, hcell]
    · cases h
theorem placeR_run {ix : Value} {len : Nat} {dec : Dec} {j : Nat} {ps : List Prop} (h : placeR ix len dec = some (j, ps)) (hp : ∀ p ∈ ps, p) :
    ∃ k, ix = .int k (j : Int) ∧ j < len := by
  unfold placeR at h
  split at h
  · rename_i k i
    split at h
    · rename_i j'
      simp only [Option.some.injEq, Prod.mk.injEq] at h
      obtain ⟨rfl, rfl⟩ := h
      have : i = (j' : Int) := hp _ (by simp)
      subst this
      exact ⟨k, rfl, hp _ (by simp)⟩
    · split at h
      · rename_i j'
        simp only [Option.some.injEq, Prod.mk.injEq] at h
        obtain ⟨rfl, rfl⟩ := h
        exact ⟨k, rfl, hp _ (by simp)⟩
      · cases h
  · cases h
theorem agOf_spec : ∀ {l : List TV} {vs : List Value} {r : Nat} {p : RP}, agOf l = some (vs, r) → β.r r = some p → denTs β l = some (vs ++ [Value.slice (some ⟨p.k, p.off, none⟩) p.n p.cap])
  | [], _, _, _, h, _ => by simp [agOf] at h
  | [.row r0], vs, r, p, h, hp => by
    simp only [agOf, Option.some.injEq, Prod.mk.injEq] at h
    obtain ⟨rfl, rfl⟩ := h
    simp [denTs, denT, hp]
  | .v x :: l, vs, r, p, h, hp => by
    simp only [agOf] at h
    split at h
    · rename_i vs' r' h'
      simp only [Option.some.injEq, Prod.mk.injEq] at h
      obtain ⟨rfl, rfl⟩ := h
      simp [denTs, denT, agOf_spec h' hp]
    · cases h
  | .row _ :: _ :: _, _, _, _, h, _ => by simp [agOf] at h
  | .ag _ :: _, _, _, _, h, _ => by simp [agOf] at h
theorem rdD_run {x : Operand} {d : DV} {rd : List Loc} (h : R β w0 B N O m S a W) (hr : (rdD P x).run S = some (d, rd)) : Shows W d (a.eval x) := by
  obtain ⟨y, rd1, rd2, h1, h2⟩ := Rd.run_bind hr
  have hy := rdX_run h h1
  split at h2
  · rw [← ret_run h2]
    simpa [den, Shows] using hy.symm
  · rw [← ret_run h2]
    simpa [den, adrs, Shows] using hy.symm
  · rename_i r
    obtain ⟨q, rd3, rd4, h3, h4⟩ := Rd.run_bind h2
    rw [← ret_run h4]
    obtain ⟨p, hp, hw⟩ := h.rs r q (rdR_run h3)
    simp only [den, hp, Option.map_some, Option.some.injEq] at hy
    exact ⟨p, hy.symm, hw.alien⟩
  · rename_i l
    split at h2
    · rename_i vs r hst
      obtain ⟨q, rd3, rd4, h3, h4⟩ := Rd.run_bind h2
      rw [← ret_run h4]
      obtain ⟨p, hp, hw⟩ := h.rs r q (rdR_run h3)
      simp only [den, agOf_spec hst hp, Option.map_some, cond_false, Option.some.injEq] at hy
      exact ⟨p, hy.symm, hw.alien⟩
    · cases h2
  · rename_i b off n cap
    cases hnc : Nat.ble n cap with
    | false => rw [hnc] at h2; cases h2
    | true =>
    rw [hnc] at h2
    have hnc := Nat.le_of_ble_eq_true hnc
    obtain ⟨⟨c, ty⟩, rd3, rd4, h3, h4⟩ := Rd.run_bind h2
    dsimp only at h4
    split at h4
    · rename_i i vs hi hvs
      obtain ⟨el, rd5, rd6, h5, h6⟩ := Rd.run_bind h4
      rw [← ret_run h6]
      obtain ⟨k, cells, hk, hc, hh⟩ := rdB_cells h h3
      have hd := dens_plain hvs (dens_ctList hc)
      obtain ⟨hle, hel⟩ := slEl_spec (rdP_run h5)
      simp only [den, hk, Option.map_some, Option.some.injEq] at hy
      refine ⟨⟨false, k, off, n, cap⟩, hy.symm, ?_⟩
      · refine ⟨rfl, hnc, fun e => (by cases e), cells, _, _, hh, fun e => (by cases e), fun j hj => ?_⟩
        obtain ⟨e1, e2⟩ := hel j hj
        refine ⟨e1, fun x hx => ?_⟩
        rw [← e2 x hx, ← hd]
        simp
    · cases h4
  · cases h2
theorem rdCap_run {b off : Nat} {d : DV} {rd : List Loc} {v : Value} (h : R β w0 B N O m S a W) (hr : (rdCap P b off).run S = some (d, rd)) (hy : adr β (b, off) = some v) : Shows W d v := by
  obtain ⟨⟨c, ty⟩, rd3, rd4, h3, h4⟩ := Rd.run_bind hr
  dsimp only at h4
  split at h4
  · rename_i i vs hi hvs
    obtain ⟨el, rd5, rd6, h5, h6⟩ := Rd.run_bind h4
    rw [← ret_run h6]
    obtain ⟨k, cells, hk, hc, hh⟩ := rdB_cells h h3
    have hd := dens_plain hvs (dens_ctList hc)
    obtain ⟨hle, hel⟩ := slEl_spec (rdP_run h5)
    simp only [adr, hk, Option.map_some, Option.some.injEq] at hy
    refine ⟨⟨false, k, off, 1, 1⟩, hy.symm, ?_⟩
    · refine ⟨rfl, Nat.le_refl _, fun e => (by cases e), cells, _, _, hh, fun e => (by cases e), fun j hj => ?_⟩
      obtain ⟨e1, e2⟩ := hel j hj
      refine ⟨e1, fun x hx => ?_⟩
      rw [← e2 x hx, ← hd]
      simp
  · cases h4
theorem rdCaps_run : ∀ {xs : List (Nat × Nat)} {ds : List DV} {rd : List Loc} {l : List Value}, R β w0 B N O m S a W → (rdCaps P xs).run S = some (ds, rd) → adrs β xs = some l → ShowsL W ds l
  | [], ds, rd, l, _, hr, hl => by
    simp only [rdCaps, Rd.run, Option.some.injEq, Prod.mk.injEq] at hr
    simp only [adrs, Option.some.injEq] at hl
    rw [← hr.1, ← hl]; trivial
  | (b, off) :: r, ds, rd, l, h, hr, hl => by
    obtain ⟨v, rd1, rd2, h1, h2⟩ := Rd.run_bind hr
    obtain ⟨l', rd3, rd4, h3, h4⟩ := Rd.run_bind h2
    simp only [Rd.run, Option.some.injEq, Prod.mk.injEq] at h4
    obtain ⟨rfl, _⟩ := h4
    simp only [adrs] at hl
    split at hl
    · rename_i y ys hy hys
      simp only [Option.some.injEq] at hl
      subst hl
      exact ⟨rdCap_run h h1 hy, rdCaps_run h h3 hys⟩
    · cases hl
theorem shows_append {W : World} : ∀ {d1 d2 : List DV} {l1 l2 : List Value}, ShowsL W d1 l1 → ShowsL W d2 l2 → ShowsL W (d1 ++ d2) (l1 ++ l2)
  | [], _, [], _, _, h => h
  | _ :: _, _, _ :: _, _, h1, h => ⟨h1.1, shows_append h1.2 h⟩
  | [], _, _ :: _, _, h1, _ => h1.elim
  | _ :: _, _, [], _, h1, _ => h1.elim
theorem rdDs_run : ∀ {xs : List Operand} {ds : List DV} {rd : List Loc}, R β w0 B N O m S a W → (rdDs P xs).run S = some (ds, rd) → ShowsL W ds (xs.map a.eval)
  | [], ds, rd, _, hr => by simp only [rdDs, Rd.run, Option.some.injEq, Prod.mk.injEq] at hr; rw [← hr.1]; trivial
  | x :: r, ds, rd, h, hr => by
    obtain ⟨v, rd1, rd2, h1, h2⟩ := Rd.run_bind hr
    obtain ⟨l, rd3, rd4, h3, h4⟩ := Rd.run_bind h2
    simp only [Rd.run, Option.some.injEq, Prod.mk.injEq] at h4
    obtain ⟨rfl, _⟩ := h4
    exact ⟨rdD_run h h1, rdDs_run h h3⟩
theorem row_owns {q : RowS} {p : RP} (hw : RowR W q p) (ho : q.own = true) : ∃ xs, W.ownsRow 0 q.ty q.sz (.slice (some ⟨p.k, p.off, none⟩) p.n p.cap) q.n xs ∧ ∀ j, j < q.n → ∀ i, i < q.sz → xs[j * q.sz + i]? = (q.el j).cells[i]? := by
  obtain ⟨h1, h2, h3⟩ := hw.own ho
  obtain ⟨cells, _, _, hc, hs0, hel⟩ := hw.mem
  obtain ⟨rfl, rfl, hs⟩ := hs0 ho
  have hcap := hw.cap
  have hle : q.n * q.sz ≤ cells.size := by rw [hs]; exact Nat.mul_le_mul_right _ hcap
  refine ⟨cells.toList.take (q.n * q.sz), ⟨by simp; omega, .inr ⟨p.k, p.cap, cells, by rw [h2, hw.n], Nat.zero_le _, hc, hcap, h3, hs, rfl⟩⟩, fun j hj i hi => ?_⟩
  have : (j + 1) * q.sz ≤ q.n * q.sz := Nat.mul_le_mul_right _ hj
  rw [Nat.add_mul] at this
  obtain ⟨_, e⟩ := hel j hj
  rw [← e i hi, h2, List.getElem?_take, if_pos (by omega)]
  simp
theorem owns_row {w : World} {e : TypeId} {sz n : Nat} {v : Value} {xs : List Value} {el : Nat → Value} (h : w.ownsRow 0 e sz v n xs) (hn : 0 < n) (hel : ∀ j, j < n → (el j).cells.size = sz ∧ ∀ i, i < sz → xs[j * sz + i]? = (el j).cells[i]?) :
    ∃ p : RP, v = .slice (some ⟨p.k, p.off, none⟩) p.n p.cap ∧ p.own = true ∧ v.ownBlock = some p.k ∧ RowR w ⟨e, sz, n, el, true⟩ p := by
  obtain ⟨hl, ⟨rfl, h0⟩ | ⟨g, cap, cur, rfl, _, hc, hcap, hmax, hs, ht⟩⟩ := h
  · omega
  · refine ⟨⟨true, g, 0, n, cap⟩, rfl, rfl, rfl, rfl, hcap, fun _ => ⟨rfl, rfl, hmax⟩, cur, _, _, hc, fun _ => ⟨rfl, rfl, hs⟩, fun j hj => ?_⟩
    obtain ⟨e1, e2⟩ := hel j hj
    refine ⟨e1, fun i hi => ?_⟩
    have : (j + 1) * sz ≤ n * sz := Nat.mul_le_mul_right _ hj
    rw [Nat.add_mul] at this
    rw [← e2 i hi, ← ht, List.getElem?_take]
    have : j * sz + i < n * sz := by have : i < sz := hi; omega
    rw [if_pos this]
    simp
theorem R.turnRow (h : R β w0 B N O m S a W) {r : Nat} {q q' : RowS} {p : RP} {cells' : Array Value} (hq : lookR S.rs r = some q) (hp : β.r r = some p) (ho : q.own = true) (ho' : q'.own = true) (hw : RowR (W.setRow p.k cells') q' p) :
    R β w0 B N O m (S.put (.r r (some q'))) a (W.setRow p.k cells') := by
  obtain ⟨pq, hpq, hwq⟩ := h.rs r q hq
  rw [hp] at hpq
  cases hpq
  have po := (hwq.own ho).1
  have rows : ∀ {r2 : Nat} {x : RowS}, lookR (S.put (.r r (some q'))).rs r2 = some x → (r2 = r ∧ x = q') ∨ (r2 ≠ r ∧ lookR S.rs r2 = some x) := fun {r2 x} hx => by
    simp only [St.put] at hx
    rw [lookR_cons] at hx
    by_cases e : r = r2
    · subst e
      rw [if_pos rfl] at hx
      exact .inl ⟨rfl, (Option.some.inj hx).symm⟩
    · rw [if_neg e] at hx
      exact .inr ⟨Ne.symm e, hx⟩
  have nb : ∀ {b k : Nat}, β b = some k → k ≠ p.k := fun {b k} hb e => h.rb r q p hq hp b (by rw [hb, e])
  exact { h with
    ts := h.ts
    bs := fun b c ty hb => by
      obtain ⟨k, o, hk, hc, hh⟩ := h.bs b c ty hb
      exact ⟨k, o, hk, hc, (setRow_other _ _ _ _ (nb hk)).trans hh⟩
    ls := fun l q hl => by
      obtain ⟨k, r, hk, hh, hr⟩ := h.ls l q hl
      exact ⟨k, r, hk, (setRow_other _ _ _ _ (nb hk)).trans hh, hr⟩
    dom := h.dom
    lt := fun b k hb => by rw [setRow_size]; exact h.lt b k hb
    rs := fun r2 x hx => by
      rcases rows hx with ⟨rfl, rfl⟩ | ⟨hne, hx⟩
      · exact ⟨p, hp, hw⟩
      · obtain ⟨p2, hp2, hw2⟩ := h.rs r2 x hx
        refine ⟨p2, hp2, hw2.keep (setRow_other _ _ _ _ fun e => ?_)⟩
        have := (h.ro r2 r x q p2 p hx hq hp2 hp hne e).2
        rw [ho] at this
        cases this
    rb := fun r2 x p2 hx hp2 b => by
      rcases rows hx with ⟨rfl, rfl⟩ | ⟨hne, hx⟩
      · exact h.rb r2 q p2 hq hp2 b
      · exact h.rb r2 x p2 hx hp2 b
    ro := fun r1 r2 x y p1 p2 hx hy hp1 hp2 hne e => by
      rcases rows hx with ⟨e1, e2⟩ | ⟨hn1, hx'⟩ <;> rcases rows hy with ⟨e3, e4⟩ | ⟨hn2, hy'⟩
      · exact absurd (e1.trans e3.symm) hne
      · have := (h.ro r1 r2 q y p1 p2 (e1 ▸ hq) hy' hp1 hp2 hne e).1
        rw [ho] at this
        cases this
      · have := (h.ro r1 r2 x q p1 p2 hx' (e3 ▸ hq) hp1 hp2 hne e).2
        rw [ho] at this
        cases this
      · exact h.ro r1 r2 x y p1 p2 hx' hy' hp1 hp2 hne e
    rdom := h.rdom
    rlt := fun r2 p2 hp2 => by rw [setRow_size]; exact h.rlt r2 p2 hp2
    old := fun k hk hb hr => (setRow_other _ _ _ _ fun e => hr r p hp po e.symm).trans (h.old k hk hb hr)
    lzW := fun x hx => let ⟨ty, hz⟩ := h.lzW x hx; ⟨ty, (setRow_other _ _ _ _ fun e => h.rlz x hx r p hp po e.symm).trans hz⟩
    hB := by rw [setRow_size]; exact h.hB
    dfr := by
      obtain ⟨ks, h1, h2, h3, h4⟩ := h.dfr
      refine ⟨ks, h1, h2, h3, fun k hk => ?_⟩
      obtain ⟨g1, g2, g3⟩ := h4 k hk
      exact ⟨g1, g2, (setRow_other _ _ _ _ fun e => g2.2 r p hp po e.symm).trans g3⟩ }
theorem spl_get {l v : List Value} {o n : Nat} (hn : n = v.length) (h : o + v.length ≤ l.length) (m : Nat) : (l.take o ++ (v ++ l.drop (o + n)))[m]? = if m < o then l[m]? else if m < o + n then v[m - o]? else l[m]? := by
  subst hn
  have hmin : (l.take o).length = o := by rw [List.length_take]; omega
  by_cases h1 : m < o
  · rw [if_pos h1, List.getElem?_append_left (by omega), List.getElem?_take_of_lt h1]
  · rw [if_neg h1, List.getElem?_append_right (by omega), hmin]
    by_cases h2 : m < o + v.length
    · rw [if_pos h2, List.getElem?_append_left (by omega)]
    · rw [if_neg h2, List.getElem?_append_right (by omega), List.getElem?_drop]
      congr 1
      omega
theorem rowPut_run {t : TypeId} {q q' : RowS} {j off sz : Nat} {z : Value} {p : RP} (hq : RowR W q p) (hj : j < q.n) (h : rowPut P t q j off sz z = some q') : q.own = true ∧ q'.own = true ∧
    ∃ cells', (storeVar t ⟨p.k, p.off + (j * sz + off), none⟩ z).run P W = .ok () (W.setRow p.k cells') ∧ RowR (W.setRow p.k cells') q' p := by
  unfold rowPut at h
  split at h
  · rename_i i cs hi he
    cases hb : (q.own && (Nat.beq sz q.sz && (Nat.beq cs.size sz && (Nat.beq z.cells.size i.size && (z.cells.toList.all Value.oneCell' && Nat.ble (off + i.size) sz))))) with
    | false => rw [hb] at h; cases h
    | true =>
      rw [hb] at h
      simp only [cond_true, Option.some.injEq] at h
      subst h
      simp only [Bool.and_eq_true] at hb
      obtain ⟨b1, b2, b3, b4, b5, b6⟩ := hb
      have e2 : sz = q.sz := Nat.eq_of_beq_eq_true b2
      have e3 : cs.size = sz := Nat.eq_of_beq_eq_true b3
      have e4 : z.cells.size = i.size := Nat.eq_of_beq_eq_true b4
      have e6 : off + i.size ≤ sz := Nat.le_of_ble_eq_true b6
      subst e2
      obtain ⟨cells, ty, fr, hc, hs, hel⟩ := hq.mem
      obtain ⟨g1, g2, g3⟩ := hs b1
      subst g2
      have g0 : p.off = 0 := (hq.own b1).2.1
      have hlen : i.size = z.cells.toList.length := by simpa using e4.symm
      have hrow : (j + 1) * q.sz ≤ p.cap * q.sz := Nat.mul_le_mul_right _ (by have := hq.cap; omega)
      have hrow' : (j + 1) * q.sz = j * q.sz + q.sz := by rw [Nat.add_mul, Nat.one_mul]
      have hle : p.off + (j * q.sz + off) + z.cells.toList.length ≤ cells.size := by rw [← hlen]; omega
      have h1 : ∀ x ∈ z.cells.toList, x.oneCell' = true := List.all_eq_true.1 b5
      have hst := run_storeCells_at (P := P) p.k (p.off + (j * q.sz + off)) ty z.cells.toList 0 cells W hc (by simpa using hle) h1
      simp only [Nat.add_zero] at hst
      have A := spl_get (l := cells.toList) (v := z.cells.toList) (o := p.off + (j * q.sz + off)) hlen (by simpa using hle)
      have B := spl_get (l := cs.toList) (v := z.cells.toList) (o := off) hlen (by rw [← hlen]; simp; omega)
      refine ⟨b1, b1, _, ?_, ⟨hq.n, hq.cap, hq.own, (cells.toList.take (p.off + (j * q.sz + off)) ++ (z.cells.toList ++ cells.toList.drop (p.off + (j * q.sz + off) + i.size))).toArray, ty, (0, 0), setRow_heap W p.k cells _ ty _ hc, fun _ => ⟨g1, rfl, ?_⟩, fun j' hj' => ?_⟩⟩
      · simp only [storeVar, sizeOf, typeInfo, Sem.run_bind, run_program, Result.andThen_ok, hi, Sem.run_pure, e4, ne_eq, not_true_eq_false, if_false, hst, List.append_assoc, ← hlen]
      · rw [← g3]
        simp only [List.size_toArray, List.length_append, List.length_take, List.length_drop, ← hlen, Array.length_toList]
        omega
      · obtain ⟨f1, f2⟩ := hel j' hj'
        by_cases ej : j' = j
        · subst ej
          rw [he] at f1 f2
          have f2 : ∀ i', i' < q.sz → cells[p.off + (j' * q.sz + i')]? = cs[i']? := f2
          show (Value.cells (bif Nat.beq j' j' then _ else _)).size = q.sz ∧ ∀ i', i' < q.sz → _ = (Value.cells (bif Nat.beq j' j' then _ else _))[i']?
          rw [Nat.beq_refl]
          show (cs.toList.take off ++ (z.cells.toList ++ cs.toList.drop (off + i.size))).toArray.size = q.sz ∧ ∀ i', i' < q.sz → _ = (cs.toList.take off ++ (z.cells.toList ++ cs.toList.drop (off + i.size))).toArray[i']?
          refine ⟨?_, fun i' hi' => ?_⟩
          · simp only [List.size_toArray, List.length_append, List.length_take, List.length_drop, ← hlen, Array.length_toList]
            omega
          · simp only [List.getElem?_toArray, A, B]
            by_cases h3 : i' < off
            · rw [if_pos h3, if_pos (by omega)]; simpa using f2 i' hi'
            · rw [if_neg h3, if_neg (by omega)]
              by_cases h4 : i' < off + i.size
              · rw [if_pos h4, if_pos (by omega)]; congr 1; omega
              · rw [if_neg h4, if_neg (by omega)]; simpa using f2 i' hi'
        · have hbe : Nat.beq j' j = false := by
            cases hx : Nat.beq j' j with
            | false => rfl
            | true => exact absurd (Nat.eq_of_beq_eq_true hx) ej
          show (Value.cells (bif Nat.beq j' j then _ else _)).size = q.sz ∧ ∀ i', i' < q.sz → _ = (Value.cells (bif Nat.beq j' j then _ else _))[i']?
          rw [hbe]
          simp only [cond_false]
          refine ⟨f1, fun i' hi' => ?_⟩
          rw [← f2 i' hi']
          simp only [List.getElem?_toArray, A]
          rcases Nat.lt_or_gt_of_ne ej with hlt | hgt
          · have : (j' + 1) * q.sz ≤ j * q.sz := Nat.mul_le_mul_right _ hlt
            rw [Nat.add_mul, Nat.one_mul] at this
            rw [if_pos (by omega)]; simp
          · have : (j + 1) * q.sz ≤ j' * q.sz := Nat.mul_le_mul_right _ hgt
            rw [if_neg (by omega), if_neg (by omega)]; simp
  · cases h
theorem isOne_spec {e : TypeId} {x : Value} {sz : Nat} (h : isOne P e x sz = true) : x.cells.size = sz ∧ (∀ u ∈ x.cells.toList, u.oneCell' = true) ∧ (isAggT P e = some false → x.oneCell' = true) := by
  simp only [isOne, Bool.and_eq_true] at h
  refine ⟨Nat.eq_of_beq_eq_true h.1, List.all_eq_true.1 h.2.1, fun he => ?_⟩
  have := h.2.2
  rw [he] at this
  exact this
theorem loadC_cells {t : TypeId} {i : TypeInfo} {c : Ct} {off : Nat} {u : Value} {cells : Array Value} (hc : denCt β c = some cells) (hi : P.info? t = some i) (h : loadC P t c off = some (.v u)) (ho : isOne P t u i.size = true) : ∀ j x, u.cells.toList[j]? = some x → cells[off + j]? = some x := by
  intro j x hx
  have hl := dens_ctList hc
  have hone := (isOne_spec ho).2.2
  have gen : loadGen c off i.size = some (.v u) → cells[off + j]? = some x := by
    intro h
    unfold loadGen at h
    split at h
    · rename_i l hp
      cases hb : Nat.beq l.length i.size with
      | false => rw [hb] at h; cases h
      | true =>
        rw [hb] at h
        simp only [cond_true, Option.some.injEq, SV.v.injEq] at h
        subst h
        have hd := dens_plain hp (dens_take i.size (dens_drop off hl))
        simp only [Value.cells] at hx
        rw [← hd, List.getElem?_take] at hx
        split at hx
        · rw [List.getElem?_drop] at hx; simpa using hx
        · cases hx
    · split at h
      · rename_i l hp
        cases hb : Nat.beq l.length i.size with
        | false => rw [hb] at h; cases h
        | true => rw [hb] at h; cases h
      · cases h
  unfold loadC at h
  split at h
  · rw [hi] at h
    simp only at h
    split at h
    · rename_i z
      cases hw : isWhole z i.size with
      | true =>
        rw [hw] at h
        simp only [cond_true, Option.some.injEq, SV.v.injEq] at h
        subst h
        simp only [denCt, Option.some.injEq] at hc
        subst hc
        simpa using hx
      | false => rw [hw] at h; exact gen h
    · exact gen h
  · rename_i hagg
    obtain ⟨v, hv, hx2⟩ := dens_get hl h
    simp only [den, Option.some.injEq] at hv
    subst hv
    have hcs : u.cells = #[u] := by
      have := hone hagg
      cases u <;> first | rfl | cases this
    rw [hcs] at hx
    match j, hx with
    | 0, hx => simp at hx; subst hx; simpa using hx2
  · cases h
theorem appRd_run {x y : Operand} {t : TypeId} {nm : Nat} {res : Res} {rd : List Loc} (type : TypeId) (h : R β w0 B N O m S a W) (hr : (appRd P x y t nm).run S = some (res, rd)) (hp : ∀ p ∈ res.ps, p) :
    ∃ β' v W', Ext β β' ∧ R β' w0 B N O m (S.puts res.wr) a W' ∧ den β' res.x = some v ∧ (Builtin.append_ #[t, t] type #[a.eval x, a.eval y]).run P W = .ok v W' := by
  unfold appRd at hr
  split at hr
  · rename_i e hu
    split at hr
    · rename_i i hi
      split at hr
      · rename_i z hz
        cases hok : appOk i z with
        | false => rw [hok] at hr; cases hr
        | true =>
          rw [hok] at hr
          simp only [appOk, Bool.and_eq_true] at hok
          have ok1 := Nat.le_of_ble_eq_true hok.1
          have ok2 := Nat.le_of_ble_eq_true hok.2.1
          have ok3 := Nat.eq_of_beq_eq_true hok.2.2
          obtain ⟨sy, rd1, rd2, h1, h2⟩ := Rd.run_bind hr
          have hy := rdX_run h h1
          split at h2
          · rename_i b off cap
            obtain ⟨⟨c, ty⟩, rd3, rd4, h3, h4⟩ := Rd.run_bind h2
            obtain ⟨su, rd5, rd6, h5, h6⟩ := Rd.run_bind h4
            split at h6
            · rename_i u
              cases hone : isOne P e u i.size with
              | false => rw [hone] at h6; cases h6
              | true =>
                rw [hone] at h6
                simp only [cond_true] at h6
                obtain ⟨sx, rd7, rd8, h7, h8⟩ := Rd.run_bind h6
                have hx := rdX_run h h7
                obtain ⟨⟨q, wr⟩, rd9, rd10, h9, h10⟩ := Rd.run_bind h8
                cases hb : Nat.blt nm gbase with
                | false => rw [hb] at h10; cases h10
                | true =>
                rw [hb] at h10
                simp only [cond_true, Rd.run, St.get] at h10
                cases hmem : memN nm S.us with
                | true => simp [hmem, Rd.run] at h10
                | false =>
                simp only [hmem, cond_false, Rd.run, Option.some.injEq, Prod.mk.injEq] at h10
                obtain ⟨rfl, _⟩ := h10
                have hn : q.n < 1000000 := hp _ (by simp)
                obtain ⟨k, cells, hk, hc, hh⟩ := rdB_cells h h3
                simp only [den, hk, Option.map_some, Option.some.injEq] at hy
                obtain ⟨hus, hu1, _⟩ := isOne_spec hone
                have hcell := loadC_cells hc hi (rdP_run h5) hone
                have hnews : ∀ j v, u.cells.toList[j]? = some v → W.cell? ((⟨k, off, none⟩ : Addr).add j) = some v := fun j v hv => by
                  rw [addr_add, cell_of hh]
                  exact hcell j v hv
                obtain ⟨vx, xs, hvx, hown, helq, hcase⟩ : ∃ vx xs, a.eval x = vx ∧ W.ownsRow 0 e i.size vx q.n xs ∧ (∀ j, j < q.n → (q.el j).cells.size = i.size ∧ ∀ k, k < i.size → xs[j * i.size + k]? = (q.el j).cells[k]?) ∧
                    ((wr = [] ∧ vx.ownBlock = none) ∨ ∃ r p, wr = [.r r none] ∧ lookR S.rs r = some q ∧ q.own = true ∧ β.r r = some p ∧ p.own = true ∧ vx.ownBlock = some p.k) := by
                  unfold rowBase at h9
                  split at h9
                  · have := ret_run h9
                    simp only [Prod.mk.injEq] at this
                    obtain ⟨rfl, rfl⟩ := this
                    simp only [den, Option.some.injEq] at hx
                    exact ⟨_, [], hx.symm, World.ownsRow_nil _ _ _ _, fun j hj => absurd hj (Nat.not_lt_zero _), .inl ⟨rfl, rfl⟩⟩
                  · rename_i r
                    obtain ⟨q', rd11, rd12, h11, h12⟩ := Rd.run_bind h9
                    cases hck : (q'.own && (Nat.beq q'.ty e && Nat.beq q'.sz i.size)) with
                    | false => rw [hck] at h12; cases h12
                    | true =>
                      rw [hck] at h12
                      have := ret_run h12
                      simp only [Prod.mk.injEq] at this
                      obtain ⟨rfl, rfl⟩ := this
                      simp only [Bool.and_eq_true] at hck
                      have e1 := Nat.eq_of_beq_eq_true hck.2.1
                      have e2 := Nat.eq_of_beq_eq_true hck.2.2
                      obtain ⟨p, hpp, hw⟩ := h.rs r q' (rdR_run h11)
                      obtain ⟨xs, hown, hxs⟩ := row_owns hw hck.1
                      simp only [den, hpp, Option.map_some, Option.some.injEq] at hx
                      obtain ⟨_, _, _, _, _, hel⟩ := hw.mem
                      rw [e1, e2] at hown
                      rw [e2] at hxs
                      exact ⟨_, xs, hx.symm, hown, fun j hj => ⟨by rw [← e2]; exact (hel j hj).1, hxs j hj⟩, .inr ⟨r, p, rfl, rdR_run h11, hck.1, hpp, (hw.own hck.1).1, rfl⟩⟩
                  · cases h9
                have hm1 : q.n + 1 ≤ maxLen := by simp only [maxLen]; omega
                have hby : (q.n + 1) * i.bytes ≤ 140737488355328 := by
                  have : (q.n + 1) * i.bytes ≤ 1000000 * 100000 := Nat.mul_le_mul (by omega) ok2
                  omega
                obtain ⟨v', w', hrun, hown', hgrow, _, hat⟩ := run_append_own_at (P := P) W 0 t type e i z i.size i.bytes hu hi hz rfl rfl ok3 ok1 vx q.n xs hown ⟨k, off, none⟩ 1 cap u.cells.toList (by simp [hus]) hnews hu1 hm1 hby (Nat.zero_le _)
                have hxl : xs.length = q.n * i.size := hown.1
                obtain ⟨p', hv', hpo', hblk', hw'⟩ := owns_row (el := (appQ e i.size q u).el) hown' (by omega) (fun j hj => by
                  by_cases ej : j = q.n
                  · subst ej
                    have : (appQ e i.size q u).el q.n = u := by simp [appQ]
                    rw [this]
                    refine ⟨hus, fun x hx => ?_⟩
                    rw [List.getElem?_append_right (by omega), hxl]
                    simp
                  · have : (appQ e i.size q u).el j = q.el j := by
                      have hb : Nat.beq j q.n = false := by
                        cases hbb : Nat.beq j q.n with
                        | false => rfl
                        | true => exact absurd (Nat.eq_of_beq_eq_true hbb) ej
                      simp only [appQ, hb, cond_false]
                    rw [this]
                    have hjn : j < q.n := by omega
                    obtain ⟨g1, g2⟩ := helq j hjn
                    refine ⟨g1, fun x hx => ?_⟩
                    have : (j + 1) * i.size ≤ q.n * i.size := Nat.mul_le_mul_right _ hjn
                    rw [Nat.add_mul] at this
                    rw [List.getElem?_append_left (by omega)]
                    exact g2 x hx)
                have hw'' : RowR w' (appQ e i.size q u) p' := hw'
                rw [hvx, ← hy]
                have fin : ∀ (rs' : List (Nat × Option RowS)), (∀ r x, lookR rs' r = some x → lookR S.rs r = some x) → (∀ r x p, lookR rs' r = some x → β.r r = some p → vx.ownBlock ≠ some p.k) →
                    (∀ k', vx.ownBlock = some k' → (∃ r p', β.r r = some p' ∧ p'.own = true ∧ p'.k = k') ∧ ∀ b, β b ≠ some k') →
                    Ext β ⟨β.b, fun i => if i = nm then some p' else β.r i⟩ ∧ R ⟨β.b, fun i => if i = nm then some p' else β.r i⟩ w0 B N O m { S with us := nm :: S.us, rs := (nm, some (appQ e i.size q u)) :: rs' } a w' := by
                  intro rs' hsub hapart hob
                  have hpk : p'.k < w'.heap.size := by
                    obtain ⟨cs, _, _, hcs, _⟩ := hw''.mem
                    exact (Array.getElem?_eq_some_iff.1 hcs).1
                  refine h.newRow hmem hw'' hgrow.os hgrow.tape hgrow.output hgrow.size (fun r x hx => ⟨x, hsub r x hx, .inl rfl⟩) (fun k' hk' => ?_) hpk (fun _ hlt => ?_) (fun b hb' => ?_) (fun r x p hx hp' hpk' => ?_)
                  · by_cases ek : some k' = vx.ownBlock
                    · obtain ⟨g1, g2⟩ := hob k' ek.symm
                      exact .inr ⟨g1, fun r x p hx hp' e => hapart r x p hx hp' (by rw [e]; exact ek.symm), g2⟩
                    · exact .inl (hgrow.block k' hk' ek)
                  · rcases hat with hat | hat
                    · rw [hblk'] at hat
                      exact (hob p'.k hat.symm).1
                    · rw [hblk'] at hat
                      simp only [Option.some.injEq] at hat
                      omega
                  · rcases hat with hat | hat
                    · rw [hblk'] at hat
                      exact (hob p'.k hat.symm).2 b hb'
                    · rw [hblk'] at hat
                      simp only [Option.some.injEq] at hat
                      have := h.lt b _ hb'
                      omega
                  · exfalso
                    rcases hat with hat | hat
                    · rw [hblk'] at hat
                      exact hapart r x p hx hp' (by rw [hpk']; exact hat.symm)
                    · rw [hblk'] at hat
                      simp only [Option.some.injEq] at hat
                      have := h.rlt r p hp'
                      omega
                have hden : den ⟨β.b, fun i => if i = nm then some p' else β.r i⟩ (.row nm) = some v' := by simp [den, hv']
                rcases hcase with ⟨rfl, hob⟩ | ⟨r, p, rfl, hlr, hqo, hpp, hpo, hob⟩
                · obtain ⟨hE, hR⟩ := fin S.rs (fun _ _ h => h) (fun _ _ _ _ _ => by rw [hob]; simp) (fun k' hk' => by rw [hob] at hk'; cases hk')
                  exact ⟨_, v', w', hE, hR, hden, hrun⟩
                · obtain ⟨hE, hR⟩ := fin ((r, none) :: S.rs) (fun r' x hx => by
                      rw [lookR_cons] at hx
                      by_cases er : r = r'
                      · rw [if_pos er] at hx; cases hx
                      · rw [if_neg er] at hx; exact hx)
                    (fun r' x p2 hx hp2 e => by
                      rw [lookR_cons] at hx
                      by_cases er : r = r'
                      · rw [if_pos er] at hx; cases hx
                      · rw [if_neg er] at hx
                        rw [hob] at e
                        simp only [Option.some.injEq] at e
                        have := (h.ro r r' q x p p2 hlr hx hpp hp2 er e).1
                        rw [hqo] at this
                        cases this)
                    (fun k' hk' => by
                      rw [hob] at hk'
                      simp only [Option.some.injEq] at hk'
                      subst hk'
                      exact ⟨⟨r, p, hpp, hpo, rfl⟩, h.rb r q p hlr hpp⟩)
                  exact ⟨_, v', w', hE, hR, hden, hrun⟩
            · cases h6
          · cases h2
      · cases hr
    · cases hr
  · cases hr
theorem vop_wp {F : Fence} {n : Nat} {o : Oper} {nm : Nat} {dec : Dec} {res : Res} {rd : List Loc} {K : Act → World → Prop} {Q : Exit → Act → World → Prop} (hF : Loose F)
    (h : R β w0 B N O m S a W) (hr : (vop P cts o nm dec).run S = some (res, rd)) (hp : ∀ p ∈ res.ps, p)
    (hK : ∀ β' v W', Ext β β' → R β' w0 B N O m (S.puts res.wr) a W' → den β' res.x = some v → K (a.put o.dst v) W') : o.wpIn F n P a W K Q := by
  obtain ⟨dst, op, type, pos, after, guard⟩ := o
  have fb : (∀ cs b, op ≠ .select cs b) → (∀ c, op ≠ .defer c) → ∀ {rd' : List Loc}, (fallback P ⟨dst, op, type, pos, after, guard⟩).run S = some (res, rd') → Oper.wpIn F n P ⟨dst, op, type, pos, after, guard⟩ a W K Q := by
    intro hns hnd rd' hr
    obtain ⟨v, hv, rfl⟩ := fallback_run h hns hr
    exact wpIn_value hF hnd hv (hK β v W (.refl _) h rfl)
  cases op
  case move x =>
    obtain ⟨y, rd1, rd2, h1, h2⟩ := Rd.run_bind hr
    obtain rfl := ret_run h2
    exact wpIn_value hF (by simp) rfl (hK β _ W (.refl _) h (rdX_run h h1))
  case assign x =>
    obtain ⟨y, rd1, rd2, h1, h2⟩ := Rd.run_bind hr
    obtain rfl := ret_run h2
    exact wpIn_value hF (by simp) rfl (hK β _ W (.refl _) h (rdX_run h h1))
  case nilCheck x =>
    obtain ⟨y, rd1, rd2, h1, h2⟩ := Rd.run_bind hr
    have hy := rdX_run h h1
    split at h2
    · rename_i b off
      obtain rfl := ret_run h2
      simp only [den, adr, Option.map_eq_some_iff] at hy
      obtain ⟨kb, hkb, hy⟩ := hy
      refine wpIn_value hF (by simp) (v := .pointer (some ⟨kb, off, none⟩)) (W' := W) ?_ (hK β _ W (.refl _) h (by simp [den, adr, hkb]))
      simp only [execOp, ← hy, Sem.run_pure]
    · exact fb (by simp) (by simp) h2
  case pick c x y =>
    obtain ⟨z, rd1, rd2, h1, h2⟩ := Rd.run_bind hr
    have hz := rdV_run h h1
    split at h2
    · obtain ⟨z, rd3, rd4, h3, h4⟩ := Rd.run_bind h2
      obtain rfl := ret_run h4
      refine wpIn_value hF (by simp) (v := a.eval x) (W' := W) ?_ (hK β _ W (.refl _) h (rdX_run h h3))
      simp [execOp, hz, asBool]
    · obtain ⟨z, rd3, rd4, h3, h4⟩ := Rd.run_bind h2
      obtain rfl := ret_run h4
      refine wpIn_value hF (by simp) (v := a.eval y) (W' := W) ?_ (hK β _ W (.refl _) h (rdX_run h h3))
      simp [execOp, hz, asBool]
    · cases h2
  case alloc e =>
    simp only [vop] at hr
    split at hr
    · rename_i i hi
      split at hr
      · rename_i z hz
        cases hb : Nat.blt nm gbase with
        | false => rw [hb] at hr; cases hr
        | true =>
          rw [hb] at hr
          simp only [cond_true, Rd.run, St.get] at hr
          cases hl : memN nm S.us with
          | true => simp [hl, Rd.run] at hr
          | false =>
            simp only [hl, cond_false, Rd.run, Option.some.injEq, Prod.mk.injEq] at hr
            obtain ⟨rfl, _⟩ := hr
            obtain ⟨β', hm, hnm, hR⟩ := h.new (c := .whole z) (cells := z.cells) (ty := e) rfl hl (by simpa [Nat.blt_eq] using hb)
            refine wpIn_value hF (by simp) (v := .pointer (some ⟨W.heap.size, 0, none⟩)) (W' := W.alloc (.cells z.cells e)) ?_ (hK β' _ _ hm hR (by simp [den, adr, hnm]))
            simp only [execOp, Instr.alloc, zeroValue, typeInfo, Sem.run_bind, run_program, Result.andThen_ok, hi, Sem.run_pure, hz]
            rfl
      · cases hr
    · cases hr
  case box e x =>
    obtain ⟨y, rd1, rd2, h1, h2⟩ := Rd.run_bind hr
    have hy := rdX_run h h1
    cases hb : Nat.blt nm gbase with
    | false => rw [hb] at h2; cases h2
    | true =>
      rw [hb] at h2
      simp only [cond_true, Rd.run, St.get] at h2
      cases hl : memN nm S.us with
      | true => simp [hl, Rd.run] at h2
      | false =>
        simp only [hl, cond_false, Rd.run, Option.some.injEq, Prod.mk.injEq] at h2
        obtain ⟨rfl, _⟩ := h2
        obtain ⟨β', hm, hnm, hR⟩ := h.new (c := ctOf y) (ty := e) (denCt_ctOf hy) hl (by simpa [Nat.blt_eq] using hb)
        refine wpIn_value hF (by simp) (v := .pointer (some ⟨W.heap.size, 0, none⟩)) (W' := W.alloc (.cells (a.eval x).cells e)) ?_ (hK β' _ _ hm hR (by simp [den, adr, hnm]))
        rfl
  case load t x =>
    simp only [vop] at hr
    split at hr
    · rename_i g
      split at hr
      · rename_i v ty hlz
        obtain ⟨z, rd5, rd6, h5, h6⟩ := Rd.run_bind hr
        obtain rfl := ret_run h6
        obtain ⟨ty', hlzw⟩ := h.lzW _ (lookLz_mem hlz)
        obtain ⟨u, hu, hl⟩ := loadC_run (β := β) (c := .whole v) (cells := v.cells) rfl hlzw (rdP_run h5)
        refine wpIn_value hF (by simp) (v := u) (W' := W) ?_ (hK β u W (.refl _) h hu)
        have e : a.eval (.global g) = .pointer (some ⟨g, 0, none⟩) := rfl
        simp [execOp, e, Instr.loadAt, Instr.sureAddr, hl]
      · cases hr
    obtain ⟨y, rd1, rd2, h1, h2⟩ := Rd.run_bind hr
    have hy := rdX_run h h1
    split at h2
    · rename_i b off
      obtain ⟨⟨c, ty⟩, rd3, rd4, h3, h4⟩ := Rd.run_bind h2
      obtain ⟨z, rd5, rd6, h5, h6⟩ := Rd.run_bind h4
      obtain rfl := ret_run h6
      obtain ⟨k, cells, hk, hc, hh⟩ := rdB_cells h h3
      obtain ⟨v, hv, hl⟩ := loadC_run hc hh (rdP_run h5)
      refine wpIn_value hF (by simp) (v := v) (W' := W) ?_ (hK β v W (.refl _) h hv)
      simp only [den, adr, hk, Option.map_some, Option.some.injEq] at hy
      simp [execOp, ← hy, Instr.loadAt, Instr.sureAddr, hl]
    · rename_i r j off sz
      obtain ⟨q, rd3, rd4, h3, h4⟩ := Rd.run_bind h2
      obtain ⟨z, rd5, rd6, h5, h6⟩ := Rd.run_bind h4
      obtain rfl := ret_run h6
      obtain ⟨p, hpp, hw⟩ := h.rs r q (rdR_run h3)
      have hl := rowLoad_run hw (hp _ (by simp)) (rdP_run h5)
      refine wpIn_value hF (by simp) (v := z) (W' := W) ?_ (hK β z W (.refl _) h rfl)
      simp only [den, hpp, Option.map_some, Option.some.injEq] at hy
      simp [execOp, ← hy, Instr.loadAt, Instr.sureAddr, hl]
    · cases h2
  case store t x z =>
    obtain ⟨y, rd1, rd2, h1, h2⟩ := Rd.run_bind hr
    have hy := rdX_run h h1
    split at h2
    · rename_i b off
      obtain ⟨u, rd3, rd4, h3, h4⟩ := Rd.run_bind h2
      obtain ⟨⟨c, ty⟩, rd5, rd6, h5, h6⟩ := Rd.run_bind h4
      obtain ⟨c', rd7, rd8, h7, h8⟩ := Rd.run_bind h6
      obtain rfl := ret_run h8
      obtain ⟨k, cells, hk, hc, hh⟩ := rdB_cells h h5
      obtain ⟨cells', hc', hs⟩ := storeC_run hc (rdX_run h h3) hh (rdP_run h7)
      refine wpIn_skipv hF (by simp) (W' := W.setRow k cells') ?_ (hK β undef _ (.refl _) (h.turn hk hh hc') rfl)
      simp only [den, adr, hk, Option.map_some, Option.some.injEq] at hy
      simp [execOp, ← hy, Instr.storeAt, Instr.sureAddr, hs]
    · rename_i r j off sz
      obtain ⟨u, rd3, rd4, h3, h4⟩ := Rd.run_bind h2
      obtain ⟨q, rd5, rd6, h5, h6⟩ := Rd.run_bind h4
      obtain ⟨q', rd7, rd8, h7, h8⟩ := Rd.run_bind h6
      obtain rfl := ret_run h8
      obtain ⟨p, hpp, hw⟩ := h.rs r q (rdR_run h5)
      obtain ⟨ho, ho', cells', hs, hw'⟩ := rowPut_run (P := P) hw (hp _ (by simp)) (rdP_run h7)
      refine wpIn_skipv hF (by simp) (W' := W.setRow p.k cells') ?_ (hK β undef _ (.refl _) (h.turnRow (rdR_run h5) hpp ho ho' hw') rfl)
      simp only [den, hpp, Option.map_some, Option.some.injEq] at hy
      rw [← rdV_run h h3] at hs
      simp [execOp, ← hy, Instr.storeAt, Instr.sureAddr, hs]
    · cases h2
  case indexAddr t x ix =>
    obtain ⟨y, rd1, rd2, h1, h2⟩ := Rd.run_bind hr
    have hy := rdX_run h h1
    split at h2
    · rename_i b off
      obtain ⟨i, rd3, rd4, h3, h4⟩ := Rd.run_bind h2
      have hi := rdV_run h h3
      split at h4
      · rename_i len e hu
        split at h4
        · rename_i inf hinf
          obtain ⟨⟨j, ps⟩, rd5, rd6, h5, h6⟩ := Rd.run_bind h4
          obtain rfl := ret_run h6
          obtain ⟨k, rfl, hj⟩ := placeAt_run (rdP_run h5) hp
          simp only [den, adr, Option.map_eq_some_iff] at hy
          obtain ⟨kb, hkb, hy⟩ := hy
          refine wpIn_value hF (by simp) (v := .pointer (some ⟨kb, off + j * inf.size, none⟩)) (W' := W) ?_ (hK β _ W (.refl _) h (by simp [den, adr, hkb]))
          have hj' : (0 : Int) ≤ j ∧ (j : Int) < len := ⟨by omega, by omega⟩
          simp only [execOp, hi, ← hy, Instr.indexAt, asIntOf, Sem.run_bind, Sem.run_pure, Result.andThen_ok, run_underlying hu, Instr.sureAddr, hj', and_self, if_true, sizeOf, typeInfo, run_program, hinf, Int.toNat_natCast, addr_add]
        · cases h4
      · cases h4
    · rename_i b off len cap
      obtain ⟨i, rd3, rd4, h3, h4⟩ := Rd.run_bind h2
      have hi := rdV_run h h3
      split at h4
      · rename_i e hu
        split at h4
        · rename_i inf hinf
          obtain ⟨⟨j, ps⟩, rd5, rd6, h5, h6⟩ := Rd.run_bind h4
          obtain rfl := ret_run h6
          obtain ⟨k, rfl, hj⟩ := placeAt_run (rdP_run h5) hp
          simp only [den, Option.map_eq_some_iff] at hy
          obtain ⟨kb, hkb, hy⟩ := hy
          refine wpIn_value hF (by simp) (v := .pointer (some ⟨kb, off + j * inf.size, none⟩)) (W' := W) ?_ (hK β _ W (.refl _) h (by simp [den, adr, hkb]))
          have hj' : (0 : Int) ≤ j ∧ (j : Int) < len := ⟨by omega, by omega⟩
          simp only [execOp, hi, ← hy, Instr.indexAt, asIntOf, Sem.run_bind, Sem.run_pure, Result.andThen_ok, run_underlying hu, hj', and_self, if_true, sizeOf, typeInfo, run_program, hinf, Int.toNat_natCast, addr_add]
        · cases h4
      · cases h4
    · rename_i r
      obtain ⟨i, rd3, rd4, h3, h4⟩ := Rd.run_bind h2
      have hi := rdV_run h h3
      split at h4
      · rename_i e hu
        split at h4
        · rename_i inf hinf
          obtain ⟨q, rd7, rd8, h7, h8⟩ := Rd.run_bind h4
          dsimp only at h8
          cases hsz : Nat.beq inf.size q.sz with
          | false => rw [hsz] at h8; cases h8
          | true =>
            rw [hsz] at h8
            have hsz := Nat.eq_of_beq_eq_true hsz
            obtain ⟨⟨j, ps⟩, rd5, rd6, h5, h6⟩ := Rd.run_bind h8
            obtain rfl := ret_run h6
            obtain ⟨k, rfl, hj⟩ := placeR_run (rdP_run h5) hp
            obtain ⟨p, hpp, hw⟩ := h.rs r q (rdR_run h7)
            simp only [den, hpp, Option.map_some, Option.some.injEq] at hy
            refine wpIn_value hF (by simp) (v := .pointer (some ⟨p.k, p.off + (j * q.sz + 0), none⟩)) (W' := W) ?_ (hK β _ W (.refl _) h (by simp [den, hpp]))
            have hj' : (0 : Int) ≤ j ∧ (j : Int) < p.n := ⟨by omega, by rw [hw.n]; omega⟩
            simp only [execOp, hi, ← hy, Instr.indexAt, asIntOf, Sem.run_bind, Sem.run_pure, Result.andThen_ok, run_underlying hu, hj', and_self, if_true, sizeOf, typeInfo, run_program, hinf, Int.toNat_natCast, addr_add, hsz, Nat.add_zero]
        · cases h4
      · cases h4
    · rename_i r j0 off sz
      obtain ⟨i, rd3, rd4, h3, h4⟩ := Rd.run_bind h2
      have hi := rdV_run h h3
      split at h4
      · rename_i len e hu
        split at h4
        · rename_i inf hinf
          obtain ⟨⟨j, ps⟩, rd5, rd6, h5, h6⟩ := Rd.run_bind h4
          obtain rfl := ret_run h6
          obtain ⟨k, rfl, hj⟩ := placeAt_run (rdP_run h5) hp
          simp only [den, Option.map_eq_some_iff] at hy
          obtain ⟨p, hpp, hy⟩ := hy
          refine wpIn_value hF (by simp) (v := .pointer (some ⟨p.k, p.off + (j0 * sz + (off + j * inf.size)), none⟩)) (W' := W) ?_ (hK β _ W (.refl _) h (by simp [den, hpp]))
          have hj' : (0 : Int) ≤ j ∧ (j : Int) < len := ⟨by omega, by omega⟩
          simp only [execOp, hi, ← hy, Instr.indexAt, asIntOf, Sem.run_bind, Sem.run_pure, Result.andThen_ok, run_underlying hu, Instr.sureAddr, hj', and_self, if_true, sizeOf, typeInfo, run_program, hinf, Int.toNat_natCast, addr_add, Nat.add_assoc]
        · cases h4
      · cases h4
    · cases h2
  case slice t x lo hi mx =>
    obtain ⟨y, rd1, rd2, h1, h2⟩ := Rd.run_bind hr
    have hy := rdX_run h h1
    split at h2
    · rename_i b off
      obtain ⟨vl, rd3, rd4, h3, h4⟩ := Rd.run_bind h2
      obtain ⟨vh, rd5, rd6, h5, h6⟩ := Rd.run_bind h4
      obtain ⟨vm, rd7, rd8, h7, h8⟩ := Rd.run_bind h6
      split at h8
      · rename_i nn e hu
        split at h8
        · rename_i inf hinf
          obtain ⟨⟨l, hh, mm⟩, rd9, rd10, h9, h10⟩ := Rd.run_bind h8
          have hb := pureRun_run (rdP_run h9) W
          dsimp only at h10
          cases hml : Nat.beq mm l with
          | true => rw [hml] at h10; cases h10
          | false =>
            rw [hml] at h10
            obtain rfl := ret_run h10
            have hne : mm ≠ l := Nat.ne_of_beq_eq_false hml
            simp only [den, adr, Option.map_eq_some_iff] at hy
            obtain ⟨kb, hkb, hy⟩ := hy
            refine wpIn_value hF (by simp) (v := .slice (some ⟨kb, off + l * inf.size, none⟩) (hh - l) (mm - l)) (W' := W) ?_ (hK β _ W (.refl _) h (by simp [den, hkb]))
            rw [rdOpt_run h h3, rdOpt_run h h5, rdOpt_run h h7] at hb
            simp only [execOp, ← hy, Instr.sliceAt, Sem.run_bind, run_underlying hu, Result.andThen_ok, Instr.sureAddr, Sem.run_pure, hb, sizeOf, typeInfo, run_program, hinf, if_neg hne, addr_add]
        · cases h8
      · cases h8
    · rename_i b off len cap
      obtain ⟨vl, rd3, rd4, h3, h4⟩ := Rd.run_bind h2
      obtain ⟨vh, rd5, rd6, h5, h6⟩ := Rd.run_bind h4
      obtain ⟨vm, rd7, rd8, h7, h8⟩ := Rd.run_bind h6
      split at h8
      · rename_i e hu
        split at h8
        · rename_i inf hinf
          obtain ⟨⟨l, hh, mm⟩, rd9, rd10, h9, h10⟩ := Rd.run_bind h8
          have hb := pureRun_run (rdP_run h9) W
          obtain rfl := ret_run h10
          simp only [den, Option.map_eq_some_iff] at hy
          obtain ⟨kb, hkb, hy⟩ := hy
          refine wpIn_value hF (by simp) (v := .slice (some ⟨kb, bif Nat.beq mm l then off else off + l * inf.size, none⟩) (hh - l) (mm - l)) (W' := W) ?_ (hK β _ W (.refl _) h (by simp [den, hkb]))
          rw [rdOpt_run h h3, rdOpt_run h h5, rdOpt_run h h7] at hb
          simp only [execOp, ← hy, Instr.sliceAt, Instr.slice, Sem.run_bind, run_underlying hu, Result.andThen_ok, Sem.run_pure, hb, sizeOf, typeInfo, run_program, hinf]
          cases hml : Nat.beq mm l with
          | true => simp [Nat.eq_of_beq_eq_true hml]
          | false => simp [Nat.ne_of_beq_eq_false hml, addr_add]
        · cases h8
      · cases h8
    · rename_i r
      split at h2
      · cases h2
      · obtain ⟨vl, rd3, rd4, h3, h4⟩ := Rd.run_bind h2
        obtain ⟨vh, rd5, rd6, h5, h6⟩ := Rd.run_bind h4
        have hvl := rdOpt_run h h3
        have hvh := rdOpt_run h h5
        split at h6
        · rename_i l hh hl hhh
          split at h6
          · rename_i e hu
            split at h6
            · rename_i inf hinf
              obtain ⟨q, rd7, rd8, h7, h8⟩ := Rd.run_bind h6
              cases hsz : Nat.beq inf.size q.sz with
              | false => rw [hsz] at h8; cases h8
              | true =>
              rw [hsz] at h8
              have hsz := Nat.eq_of_beq_eq_true hsz
              cases hb : Nat.blt nm gbase with
              | false => rw [hb] at h8; cases h8
              | true =>
              rw [hb] at h8
              simp only [cond_true, Rd.run, St.get] at h8
              cases hmem : memN nm S.us with
              | true => simp [hmem, Rd.run] at h8
              | false =>
              simp only [hmem, cond_false, Rd.run, Option.some.injEq, Prod.mk.injEq] at h8
              obtain ⟨rfl, _⟩ := h8
              have p1 : l.getD 0 ≤ hh.getD q.n := hp _ (by simp)
              have p2 : hh.getD q.n ≤ q.n := hp _ (by simp)
              obtain ⟨p, hpp, hw⟩ := h.rs r q (rdR_run h7)
              simp only [den, hpp, Option.map_some, Option.some.injEq] at hy
              have hneq : r ≠ nm := fun e => by
                have := h.rdom r p hpp
                rw [e, hmem] at this
                cases this
              obtain ⟨hE, hR⟩ := h.newRow (nm := nm) (q := cutRow q (l.getD 0) (hh.getD q.n)) (p := ⟨false, p.k, bif Nat.beq p.cap (l.getD 0) then p.off else p.off + l.getD 0 * inf.size, hh.getD q.n - l.getD 0, p.cap - l.getD 0⟩) (W' := W) (rs' := (r, some { q with own := false }) :: S.rs) hmem
                (by
                  refine ⟨rfl, by have := hw.cap; show hh.getD q.n - l.getD 0 ≤ p.cap - l.getD 0; omega, fun e => (by cases e), ?_⟩
                  obtain ⟨cells, ty, fr, hc, _, hel⟩ := hw.mem
                  refine ⟨cells, ty, fr, hc, fun e => (by cases e), fun j hj => ?_⟩
                  have hj : j < hh.getD q.n - l.getD 0 := hj
                  obtain ⟨e1, e2⟩ := hel (l.getD 0 + j) (by omega)
                  refine ⟨e1, fun i hi => ?_⟩
                  have hi : i < q.sz := hi
                  have hne : Nat.beq p.cap (l.getD 0) = false := by
                    cases hbb : Nat.beq p.cap (l.getD 0) with
                    | false => rfl
                    | true => have := Nat.eq_of_beq_eq_true hbb; have := hw.cap; omega
                  show cells[(bif Nat.beq p.cap (l.getD 0) then p.off else p.off + l.getD 0 * inf.size) + (j * q.sz + i)]? = (q.el (l.getD 0 + j)).cells[i]?
                  rw [hne, ← e2 i hi, hsz, Nat.add_mul]
                  simp only [cond_false]
                  congr 1
                  omega)
                rfl rfl rfl (Nat.le_refl _)
                (fun r' x hx => by
                  rw [lookR_cons] at hx
                  by_cases e : r = r'
                  · subst e
                    rw [if_pos rfl] at hx
                    simp only [Option.some.injEq] at hx
                    exact ⟨q, rdR_run h7, .inr hx.symm⟩
                  · rw [if_neg e] at hx; exact ⟨x, hx, .inl rfl⟩)
                (fun k _ => .inl rfl) (h.rlt r p hpp) (fun e => (by cases e)) (fun b => h.rb r q p (rdR_run h7) hpp b)
                (fun r' x p' hx hp' hk => by
                  refine ⟨?_, rfl⟩
                  rw [lookR_cons] at hx
                  by_cases e : r = r'
                  · rw [if_pos e] at hx; simp only [Option.some.injEq] at hx; rw [← hx]
                  · rw [if_neg e] at hx
                    exact (h.ro r r' q x p p' (rdR_run h7) hx hpp hp' e hk.symm).2)
              have hlit : ∀ {v : Option Value} {n : Option Nat}, litNat v = some n → (v = none ∧ n = none) ∨ ∃ k j, v = some (.int k (.ofNat j)) ∧ n = some j := by
                intro v n hv
                unfold litNat at hv
                split at hv
                · simp only [Option.some.injEq] at hv; exact .inl ⟨rfl, hv.symm⟩
                · simp only [Option.some.injEq] at hv; exact .inr ⟨_, _, rfl, hv.symm⟩
                · cases hv
              have hbounds : (Instr.sliceBounds true p.n p.cap (lo.map a.eval) (hi.map a.eval) none).run P W = .ok (l.getD 0, hh.getD q.n, p.cap) W := by
                rw [← hvl, ← hvh]
                have hcap := hw.cap
                have hn := hw.n
                have sb : ∀ (k : IntKind) (j y : Nat) (c : BoundsCode), j ≤ y → (Instr.sliceBound (.int k (.ofNat j)) y c).run P W = .ok j W := by
                  intro k j y c hjy
                  have : (0 : Int) ≤ Int.ofNat j ∧ Int.ofNat j ≤ (y : Int) := ⟨by simp, by simp; omega⟩
                  simp only [Instr.sliceBound, asIntOf, Sem.run_bind, Sem.run_pure, Result.andThen_ok, if_pos this]
                  rfl
                rcases hlit hl with ⟨rfl, rfl⟩ | ⟨k1, j1, rfl, rfl⟩ <;> rcases hlit hhh with ⟨rfl, rfl⟩ | ⟨k2, j2, rfl, rfl⟩ <;>
                  simp only [Option.getD_some, Option.getD_none] at p1 p2 ⊢
                · simp only [Instr.sliceBounds, Sem.run_bind, Sem.run_pure, Result.andThen_ok, hn]
                · simp only [Instr.sliceBounds, Sem.run_bind, Sem.run_pure, Result.andThen_ok, sb k2 j2 p.cap _ (by omega), if_true]
                · simp only [Instr.sliceBounds, Sem.run_bind, Sem.run_pure, Result.andThen_ok, hn, Option.isSome_none, Bool.false_eq_true, if_false, sb k1 j1 q.n _ (by omega)]
                · simp only [Instr.sliceBounds, Sem.run_bind, Sem.run_pure, Result.andThen_ok, sb k2 j2 p.cap _ (by omega), Option.isSome_none, Bool.false_eq_true, if_false, if_true, sb k1 j1 j2 _ (by omega)]
              refine wpIn_value hF (by simp) (v := .slice (some ⟨p.k, bif Nat.beq p.cap (l.getD 0) then p.off else p.off + l.getD 0 * inf.size, none⟩) (hh.getD q.n - l.getD 0) (p.cap - l.getD 0)) (W' := W) ?_ (hK _ _ W hE hR (by simp [den]))
              simp only [execOp, ← hy, Instr.sliceAt, Instr.slice, Sem.run_bind, run_underlying hu, Result.andThen_ok, Sem.run_pure, Option.map_none, hbounds, sizeOf, typeInfo, run_program, hinf]
              cases hml : Nat.beq p.cap (l.getD 0) with
              | true => simp [Nat.eq_of_beq_eq_true hml]
              | false => simp [Nat.ne_of_beq_eq_false hml, addr_add]
            · cases h6
          · cases h6
        · cases h6
    · rename_i str
      split at h2
      · cases h2
      · obtain ⟨vl, rd3, rd4, h3, h4⟩ := Rd.run_bind h2
        obtain ⟨vh, rd5, rd6, h5, h6⟩ := Rd.run_bind h4
        cases ht : isStrT P t with
        | false => rw [ht] at h6; cases h6
        | true =>
          rw [ht] at h6
          obtain ⟨⟨r, ps⟩, rd7, rd8, h7, h8⟩ := Rd.run_bind h6
          obtain rfl := ret_run h8
          simp only [den, Option.some.injEq] at hy
          refine wpIn_value hF (by simp) (v := .string r) (W' := W) ?_ (hK β _ W (.refl _) h rfl)
          have := strCut_run (P := P) (W := W) (rdP_run h7) ht hp
          rw [rdOpt_run h h3, rdOpt_run h h5] at this
          simp only [execOp, ← hy, Option.map_none, Sem.run_bind, this, Result.andThen_ok, Sem.run_pure]
    · exact fb (by simp) (by simp) h2
  case sliceToArrayPointer t x =>
    obtain ⟨y, rd1, rd2, h1, h2⟩ := Rd.run_bind hr
    have hy := rdX_run h h1
    split at h2
    · rename_i b off len cap
      split at h2
      · rename_i nn e hu
        cases hle : Nat.ble nn len with
        | false => rw [hle] at h2; cases h2
        | true =>
          rw [hle] at h2
          obtain rfl := ret_run h2
          simp only [den, Option.map_eq_some_iff] at hy
          obtain ⟨kb, hkb, hy⟩ := hy
          refine wpIn_value hF (by simp) (v := .pointer (some ⟨kb, off, none⟩)) (W' := W) ?_ (hK β _ W (.refl _) h (by simp [den, adr, hkb]))
          have hle' : ¬ len < nn := by have := Nat.le_of_ble_eq_true hle; omega
          simp only [execOp, ← hy, Instr.arrayAt, Sem.run_bind, run_underlying hu, Result.andThen_ok, if_neg hle', Sem.run_pure]
      · cases h2
    · cases h2
  case build t parts =>
    obtain ⟨pb, rd1, rd2, h1, h2⟩ := Rd.run_bind hr
    cases pb with
    | true => exact fb (by simp) (by simp) h2
    | false =>
      obtain ⟨⟨z, pl⟩, rd3, rd4, h3, h4⟩ := Rd.run_bind h2
      obtain ⟨ps, rd5, rd6, h5, h6⟩ := Rd.run_bind h4
      obtain ⟨l, rd7, rd8, h7, h8⟩ := Rd.run_bind h6
      obtain rfl := ret_run h8
      obtain ⟨g1, g2⟩ := rdTVParts_run h h5
      obtain ⟨ov, k1, k2⟩ := fillT_fill (β := β) (vs := parts.toList.map fun (i, x) => (i, a.eval x)) (cv := z) (by simpa using g1) g2 (denTs_map_v _) (rdP_run h7)
      refine wpIn_value hF (by simp) (v := .agg ov) (W' := W) ?_ (hK β _ W (.refl _) h (by simp [den, k1]))
      have hpp : (parts.map fun (i, x) => (i, a.eval x)).toList = parts.toList.map fun (i, x) => (i, a.eval x) := by cases parts; simp
      simp only [execOp, Sem.run_bind, run_build (rdP_run h3) (parts := parts.map fun (i, x) => (i, a.eval x)) (by rw [hpp]; exact k2) W, Result.andThen_ok, Sem.run_pure]
  case buildSlice t len parts =>
    obtain ⟨ps, rd1, rd2, h1, h2⟩ := Rd.run_bind hr
    have hps := rdParts_run h h1
    obtain ⟨⟨e, cells⟩, rd3, rd4, h3, h4⟩ := Rd.run_bind h2
    have hc := rdP_run h3
    dsimp only at h4
    cases hb : Nat.blt nm gbase with
    | false => rw [hb] at h4; cases h4
    | true =>
      rw [hb] at h4
      simp only [cond_true, Rd.run, St.get] at h4
      cases hl : memN nm S.us with
      | true => simp [hl, Rd.run] at h4
      | false =>
        simp only [hl, cond_false] at h4
        have hpp : (parts.map fun (i, x) => (i, a.eval x)) = ps.toArray := by rw [hps]; cases parts; simp
        have plain : res = ⟨.sl nm 0 len len, [.u nm, .b nm (.parts (cells.toList.map .v)) e], []⟩ → Oper.wpIn F n P ⟨dst, .buildSlice t len parts, type, pos, after, guard⟩ a W K Q := by
          rintro rfl
          obtain ⟨β', hm, hnm, hR⟩ := h.new (c := .parts (cells.toList.map .v)) (cells := cells) (ty := e) (by simp [denCt, dens_map_v]) hl (by simpa [Nat.blt_eq] using hb)
          refine wpIn_value hF (by simp) (v := .slice (some ⟨W.heap.size, 0, none⟩) len len) (W' := W.alloc (.cells cells e)) ?_ (hK β' _ _ hm hR (by simp [den, hnm]))
          simp only [execOp, hpp, Sem.run_bind, run_buildSlice hc W, Result.andThen_ok, Sem.run_pure]
        generalize hgen : Rd.run _ S = q at h4
        cases q with
        | none => cases h4
        | some q =>
        obtain ⟨q1, q2⟩ := q
        simp only [Option.some.injEq, Prod.mk.injEq] at h4
        obtain ⟨rfl, _⟩ := h4
        split at hgen
        · split at hgen
          · rename_i i hi
            obtain ⟨el, rd5, rd6, h5, h6⟩ := Rd.run_bind hgen
            cases hck : (Nat.beq cells.size (len * i.size) && Nat.ble len 100000) with
            | false => rw [hck] at h6; cases h6
            | true =>
              rw [hck] at h6
              obtain rfl := ret_run h6
              simp only [Bool.and_eq_true] at hck
              have hcs := Nat.eq_of_beq_eq_true hck.1
              have hlen := Nat.le_of_ble_eq_true hck.2
              obtain ⟨_, hel⟩ := slEl_spec (rdP_run h5)
              have hnew : (W.alloc (.cells cells e)).heap[W.heap.size]? = some (.cells cells e) := heap_alloc_new _ _
              obtain ⟨hE, hR⟩ := h.newRow (nm := nm) (q := ⟨e, i.size, len, el, true⟩) (p := ⟨true, W.heap.size, 0, len, len⟩) (W' := W.alloc (.cells cells e)) (rs' := S.rs) hl
                ⟨rfl, Nat.le_refl _, fun _ => ⟨rfl, rfl, by simp only [maxLen]; omega⟩, cells, _, _, hnew, fun _ => ⟨rfl, rfl, hcs⟩, fun j hj => by
                  obtain ⟨e1, e2⟩ := hel j hj
                  refine ⟨e1, fun x hx => ?_⟩
                  rw [← e2 x hx]
                  simp⟩
                rfl rfl rfl (by rw [World.size_alloc]; omega) (fun r x hx => ⟨x, hx, .inl rfl⟩) (fun k hk => .inl (Below.heap_alloc _ _ _ hk)) (by rw [World.size_alloc]; exact Nat.lt_succ_self _)
                (fun _ hlt => absurd hlt (Nat.lt_irrefl _)) (fun b hb' => absurd (h.lt b _ hb') (Nat.lt_irrefl _)) (fun r x p' _ hp' hk => absurd (h.rlt r p' hp') (by rw [hk]; exact Nat.lt_irrefl _))
              refine wpIn_value hF (by simp) (v := .slice (some ⟨W.heap.size, 0, none⟩) len len) (W' := W.alloc (.cells cells e)) ?_ (hK _ _ _ hE hR (by simp [den]))
              simp only [execOp, hpp, Sem.run_bind, run_buildSlice hc W, Result.andThen_ok, Sem.run_pure]
          · cases hgen
        · exact plain (ret_run hgen).symm
  case fieldAddr s x f =>
    obtain ⟨y, rd1, rd2, h1, h2⟩ := Rd.run_bind hr
    have hy := rdX_run h h1
    split at h2
    · rename_i b off
      split at h2
      · rename_i fs hu
        split at h2
        · rename_i fd hfd
          split at h2
          · rename_i inf hinf
            cases hb : Nat.beq inf.size 0 with
            | true => rw [hb] at h2; cases h2
            | false =>
              rw [hb] at h2
              obtain rfl := ret_run h2
              simp only [den, adr, Option.map_eq_some_iff] at hy
              obtain ⟨kb, hkb, hy⟩ := hy
              refine wpIn_value hF (by simp) (v := .pointer (some ⟨kb, off + fd.offset, none⟩)) (W' := W) ?_ (hK β _ W (.refl _) h (by simp [den, adr, hkb]))
              have hne : inf.size ≠ 0 := Nat.ne_of_beq_eq_false hb
              simp only [execOp, ← hy, Instr.fieldAt, Sem.run_bind, run_underlying hu, Result.andThen_ok, hfd, Instr.sureAddr, Sem.run_pure, fieldPlace, sizeOf, typeInfo, run_program, hinf, hne, if_false, addr_add]
          · cases h2
        · cases h2
      · cases h2
    · rename_i r j off sz
      split at h2
      · rename_i fs hu
        split at h2
        · rename_i fd hfd
          split at h2
          · rename_i inf hinf
            cases hb : Nat.beq inf.size 0 with
            | true => rw [hb] at h2; cases h2
            | false =>
              rw [hb] at h2
              obtain rfl := ret_run h2
              simp only [den, Option.map_eq_some_iff] at hy
              obtain ⟨kb, hkb, hy⟩ := hy
              refine wpIn_value hF (by simp) (v := .pointer (some ⟨kb.k, kb.off + (j * sz + (off + fd.offset)), none⟩)) (W' := W) ?_ (hK β _ W (.refl _) h (by simp [den, hkb]))
              have hne : inf.size ≠ 0 := Nat.ne_of_beq_eq_false hb
              simp only [execOp, ← hy, Instr.fieldAt, Sem.run_bind, run_underlying hu, Result.andThen_ok, hfd, Instr.sureAddr, Sem.run_pure, fieldPlace, sizeOf, typeInfo, run_program, hinf, hne, if_false, addr_add, Nat.add_assoc]
          · cases h2
        · cases h2
      · cases h2
    · cases h2
  case extract x i =>
    obtain ⟨y, rd1, rd2, h1, h2⟩ := Rd.run_bind hr
    have hy := rdX_run h h1
    split at h2
    · rename_i l
      obtain ⟨z, rd3, rd4, h3, h4⟩ := Rd.run_bind h2
      obtain rfl := ret_run h4
      have hz := rdP_run h3
      simp only [den, Option.map_eq_some_iff, cond_true] at hy
      obtain ⟨vs, hvs, hy⟩ := hy
      have hds : dens β (l.map TV.sv) = some vs := by rw [dens_sv]; exact hvs
      obtain ⟨v, hv, hx⟩ := dens_get (i := i) (x := z.sv) hds (by simp [hz])
      refine wpIn_value hF (by simp) (v := v) (W' := W) ?_ (hK β v W (.refl _) h hv)
      simp [execOp, ← hy, Instr.extract, hx]
    · exact fb (by simp) (by simp) h2
  case makeFunc fn first caps =>
    cases fn with
    | func f =>
      simp only [vop] at hr
      split at hr
      · rename_i hfirst
        obtain ⟨l, rd1, rd2, h1, h2⟩ := Rd.run_bind hr
        obtain rfl := ret_run h2
        have hc := capsOf_run h h1
        refine wpIn_value hF (by simp) (v := .func (.func f) (first.map a.eval) (caps.map a.eval)) (W' := W) rfl (hK β _ W (.refl _) h ?_)
        have hf : first = #[] := by cases first; simpa using hfirst
        simp only [den, hc, hf, List.map_toArray]
        congr 2
        cases caps
        simp
      · cases hr
    | method _ => simp only [vop] at hr; exact fb (by simp) (by simp) hr
    | methodOf _ _ => simp only [vop] at hr; exact fb (by simp) (by simp) hr
    | via _ _ _ _ => simp only [vop] at hr; exact fb (by simp) (by simp) hr
    | yield _ => simp only [vop] at hr; exact fb (by simp) (by simp) hr
  case binOp bop t x y yt =>
    obtain ⟨u, rd1, rd2, h1, h2⟩ := Rd.run_bind hr
    obtain ⟨v, rd3, rd4, h3, h4⟩ := Rd.run_bind h2
    obtain ⟨z, hz, hw, hrun⟩ := binV_run (rdP_run h4) hp
    have hu := rdV_run h h1
    have hv := rdV_run h h3
    refine wpIn_value hF (by simp) (v := z) (W' := W) ?_ (hK β z W (.refl _) (by rw [hw]; exact h) (by rw [hz]; rfl))
    have := hrun W
    simp only [execOp, hu, hv, Sem.run_bind, Sem.run_pure] at this ⊢
    rw [this]
    rfl
  case call c =>
    obtain ⟨callee, args, argTypes⟩ := c
    cases callee with
    | builtin b =>
      have hr' : (match b, args.toList, argTypes.toList with
        | .len, [x], [t] => bif isSliceT P t then (rdX x).bind fun
            | .sl _ _ n _ => .ret (Res.mk (.v (.int .i64 n)) [] [])
            | .row r => (rdR r).bind fun q => .ret ⟨.v (.int .i64 q.n), [], []⟩
            | _ => fallback P ⟨dst, .call ⟨.builtin b, args, argTypes⟩, type, pos, after, guard⟩
          else fallback P ⟨dst, .call ⟨.builtin b, args, argTypes⟩, type, pos, after, guard⟩
        | .append, [x, y], [t, t'] => bif Nat.beq t t' then appRd P x y t nm else .stop
        | _, _, _ => fallback P ⟨dst, .call ⟨.builtin b, args, argTypes⟩, type, pos, after, guard⟩).run S = some (res, rd) := hr
      split at hr'
      · rename_i x t hargs htys
        cases hs : isSliceT P t with
        | false => rw [hs] at hr'; exact fb (by simp) (by simp) hr'
        | true =>
          rw [hs] at hr'
          obtain ⟨y, rd1, rd2, h1, h2⟩ := Rd.run_bind hr'
          have hy := rdX_run h h1
          split at h2
          · rename_i b off nn cap
            obtain rfl := ret_run h2
            simp only [den, Option.map_eq_some_iff] at hy
            obtain ⟨kb, hkb, hy⟩ := hy
            refine wpIn_value hF (by simp) (v := .int .i64 nn) (W' := W) ?_ (hK β _ W (.refl _) h rfl)
            have ha : args = #[x] := by cases args; simpa using hargs
            have ht : argTypes = #[t] := by cases argTypes; simpa using htys
            subst ha
            subst ht
            unfold isSliceT at hs
            split at hs
            · rename_i e hu
              simp only [execOp, resolve, Sem.run_bind, Sem.run_pure, Result.andThen_ok, invoke, builtin, Builtin.len_, List.map_toArray, List.map_cons, List.map_nil, ← hy]
              simp [run_underlying hu, goInt]
            · cases hs
          · rename_i r
            obtain ⟨q, rd3, rd4, h3, h4⟩ := Rd.run_bind h2
            obtain rfl := ret_run h4
            obtain ⟨p, hpp, hw⟩ := h.rs r q (rdR_run h3)
            simp only [den, hpp, Option.map_some, Option.some.injEq] at hy
            refine wpIn_value hF (by simp) (v := .int .i64 q.n) (W' := W) ?_ (hK β _ W (.refl _) h rfl)
            have ha : args = #[x] := by cases args; simpa using hargs
            have ht : argTypes = #[t] := by cases argTypes; simpa using htys
            subst ha
            subst ht
            unfold isSliceT at hs
            split at hs
            · rename_i e hu
              simp only [execOp, resolve, Sem.run_bind, Sem.run_pure, Result.andThen_ok, invoke, builtin, Builtin.len_, List.map_toArray, List.map_cons, List.map_nil, ← hy]
              simp [run_underlying hu, goInt, hw.n]
            · cases hs
          · exact fb (by simp) (by simp) h2
      · rename_i x y t t' hargs htys
        cases htt : Nat.beq t t' with
        | false => rw [htt] at hr'; cases hr'
        | true =>
          rw [htt] at hr'
          have htt := Nat.eq_of_beq_eq_true htt
          subst htt
          have ha : args = #[x, y] := by cases args; simpa using hargs
          have ht : argTypes = #[t, t] := by cases argTypes; simpa using htys
          subst ha
          subst ht
          obtain ⟨β', v, W', hE, hR, hv, hrun⟩ := appRd_run type h hr' hp
          refine wpIn_value hF (by simp) (v := v) (W' := W') ?_ (hK β' v W' hE hR hv)
          simp only [execOp, resolve, Sem.run_bind, Sem.run_pure, Result.andThen_ok, invoke, builtin, List.map_toArray, List.map_cons, List.map_nil, hrun]
      · exact fb (by simp) (by simp) hr'
    | invoke _ _ => cases hr
    | value f =>
      obtain ⟨y, rd1, rd2, h1, h2⟩ := Rd.run_bind hr
      have hy := rdX_run h h1
      split at h2
      · rename_i g
        have hev : a.eval f = .func (.func g) #[] #[] := by simpa [den, adrs] using hy.symm
        split at h2
        · rename_i _ ct hfr
          obtain ⟨ds, rd3, rd4, h3, h4⟩ := Rd.run_bind h2
          have hfr : findR cts.r g = some ct := by
            cases hd : decB dec with
            | false => rw [hd] at hfr; cases hfr
            | true => rw [hd] at hfr; exact hfr
          have hf := findR_f hfr
          cases hb : Nat.blt nm gbase with
          | false => rw [hb] at h4; cases h4
          | true =>
            rw [hb] at h4
            simp only [cond_true, Rd.run, St.get] at h4
            cases hl : memN nm S.us with
            | true => simp [hl, Rd.run] at h4
            | false =>
              simp only [hl, cond_false, Rd.run, Option.some.injEq, Prod.mk.injEq] at h4
              obtain ⟨rfl, _⟩ := h4
              have hs := ct.sound ds (hp _ (by simp)) F n ⟨dst, .call ⟨.value f, args, argTypes⟩, type, pos, after, guard⟩ a W K Q _ hF.fn hF.depth hF.alive h.lzW (rdDs_run h h3) (fun W' p hb hk hw => by
                have hlt : p.k < W'.heap.size := let ⟨cells, ty, fr, hc, _⟩ := hw.mem; (Array.getElem?_eq_some_iff.1 hc).1
                obtain ⟨hE, hR⟩ := h.newRow (nm := nm) (q := ct.row ds) (p := p) (W' := W') hl hw hb.os hb.tape hb.output hb.size (rs' := S.rs) (fun r x hx => ⟨x, hx, .inl rfl⟩)
                  (fun k hk => .inl (hb.block k hk)) hlt (fun _ e => absurd e (by omega)) (fun b e => by have := h.lt b _ e; omega) (fun r x p' _ hp' e => by have := h.rlt r p' hp'; omega)
                refine hK _ _ W' hE hR ?_
                have e : denTs (⟨β.b, fun i => if i = nm then some p else β.r i⟩ : Ren) (.row nm :: (ct.val ds).map .v) = some (.slice (some ⟨p.k, p.off, none⟩) p.n p.cap :: ct.val ds) := by
                  simp only [denTs, denT, if_true, Option.map_some, denTs_map_v]
                simp only [den, e, Option.map_some, cond_true])
              refine ⟨fun f _ => by rw [hF.fn]; trivial, ?_⟩
              rw [Oper.semAt_eq _ _ _ (by simp)]
              have hargs : (args.map a.eval) = (args.toList.map a.eval).toArray := by cases args; simp
              have he : execOp a.eval ⟨dst, .call ⟨.value f, args, argTypes⟩, type, pos, after, guard⟩ = callFunc g (args.toList.map a.eval).toArray := by
                simp only [execOp, resolve, hev, Deferred.ofValue, hargs]
                simp only [bind, Sem.bind, pure, invoke, Array.empty_append, Array.append_empty]
              rw [he, ← hf]
              exact hs
        · rename_i ct _ hfc
          obtain ⟨vs, rd3, rd4, h3, h4⟩ := Rd.run_bind h2
          obtain rfl := ret_run h4
          have hf := findC_f hfc
          have hvs := rdVs_run h h3
          have hs := ct.sound vs (hp _ (by simp)) F n ⟨dst, .call ⟨.value f, args, argTypes⟩, type, pos, after, guard⟩ a W K Q hF.fn hF.depth hF.alive h.lzW (fun W' hb => hK β _ W' (.refl _) (h.below hb) rfl)
          refine ⟨fun f _ => by rw [hF.fn]; trivial, ?_⟩
          rw [Oper.semAt_eq _ _ _ (by simp)]
          have hargs : (args.map a.eval) = vs.toArray := by rw [hvs]; cases args; simp
          have he : execOp a.eval ⟨dst, .call ⟨.value f, args, argTypes⟩, type, pos, after, guard⟩ = callFunc g vs.toArray := by
            simp only [execOp, resolve, hev, Deferred.ofValue, hargs]
            simp only [bind, Sem.bind, pure, invoke, Array.empty_append, Array.append_empty]
          rw [he, ← hf]
          exact hs
        · obtain ⟨ct, rd5, rd6, h5, h6⟩ := Rd.run_bind h2
          obtain ⟨ds, rd3, rd4, h3, h4⟩ := Rd.run_bind h6
          obtain rfl := ret_run h4
          have hf := findD_f (rdP_run h5)
          have hs := ct.sound ds (hp _ (by simp)) F n ⟨dst, .call ⟨.value f, args, argTypes⟩, type, pos, after, guard⟩ a W K Q _ hF.fn hF.depth hF.alive h.lzW (rdDs_run h h3) (fun W' hb => hK β _ W' (.refl _) (h.below hb) rfl)
          refine ⟨fun f _ => by rw [hF.fn]; trivial, ?_⟩
          rw [Oper.semAt_eq _ _ _ (by simp)]
          have hargs : (args.map a.eval) = (args.toList.map a.eval).toArray := by cases args; simp
          have he : execOp a.eval ⟨dst, .call ⟨.value f, args, argTypes⟩, type, pos, after, guard⟩ = callFunc g (args.toList.map a.eval).toArray := by
            simp only [execOp, resolve, hev, Deferred.ofValue, hargs]
            simp only [bind, Sem.bind, pure, invoke, Array.empty_append, Array.append_empty]
          rw [he, ← hf]
          exact hs
      · rename_i g cp cr
        obtain ⟨ct, rd5, rd6, h5, h6⟩ := Rd.run_bind h2
        obtain ⟨ds, rd3, rd4, h3, h4⟩ := Rd.run_bind h6
        obtain ⟨ws, rd7, rd8, h7, h8⟩ := Rd.run_bind h4
        obtain rfl := ret_run h8
        have hf := findD_f (rdP_run h5)
        simp only [den] at hy
        split at hy
        · rename_i cv hcv
          have hev : a.eval f = .func (.func g) #[] cv.toArray := by simpa using hy.symm
          have hs := ct.sound (ds ++ ws) (hp _ (by simp)) F n ⟨dst, .call ⟨.value f, args, argTypes⟩, type, pos, after, guard⟩ a W K Q _ hF.fn hF.depth hF.alive h.lzW (shows_append (rdDs_run h h3) (rdCaps_run h h7 hcv)) (fun W' hb => hK β _ W' (.refl _) (h.below hb) rfl)
          refine ⟨fun f _ => by rw [hF.fn]; trivial, ?_⟩
          rw [Oper.semAt_eq _ _ _ (by simp)]
          have hargs : (args.map a.eval) = (args.toList.map a.eval).toArray := by cases args; simp
          have he : execOp a.eval ⟨dst, .call ⟨.value f, args, argTypes⟩, type, pos, after, guard⟩ = callFunc g (args.toList.map a.eval ++ cv).toArray := by
            simp only [execOp, resolve, hev, Deferred.ofValue, hargs]
            simp only [bind, Sem.bind, pure, invoke, Array.empty_append]
            simp
          rw [he, ← hf]
          exact hs
        · cases hy
      · cases h2
  case index t x ix =>
    simp only [vop] at hr
    split at hr
    · rename_i s ix' hix
      unfold strIx at hix
      split at hix
      · rename_i s'
        split at hix
        · rename_i hu
          cases hc : isConst ix with
          | true => rw [hc] at hix; cases hix
          | false =>
            rw [hc] at hix
            simp only [cond_false, Option.some.injEq, Prod.mk.injEq] at hix
            obtain ⟨rfl, rfl⟩ := hix
            obtain ⟨y, rd1, rd2, h1, h2⟩ := Rd.run_bind hr
            have hy := rdV_run h h1
            split at h2
            · rename_i k i
              obtain rfl := ret_run h2
              have hi : 0 ≤ i ∧ i < (s'.size : Int) := hp _ (by simp)
              refine wpIn_value hF (by simp) (v := .int .u8 (strAt s' i)) (W' := W) ?_ (hK β _ W (.refl _) h rfl)
              have hlt : i.toNat < s'.size := by omega
              have hb : s'[i.toNat]? = some (s'[i.toNat]'hlt) := by simp [hlt]
              have hs : strAt s' i = ((s'[i.toNat]'hlt).toNat : Int) := by unfold strAt; rw [hb]; rfl
              have hx : a.eval (.const (.string s')) = .string s' := rfl
              rw [hs]
              simp only [execOp, hx, hy, Instr.index, asIntOf, Sem.run_bind, Sem.run_pure, Result.andThen_ok, run_underlying hu, hi.1, if_true, hb]
            · cases h2
        · cases hix
      · cases hix
    · cases ht : isStrT P t && !isConst x with
      | true =>
        rw [ht] at hr
        simp only [Bool.and_eq_true] at ht
        obtain ⟨y, rd1, rd2, h1, h2⟩ := Rd.run_bind hr
        have hy := rdV_run h h1
        split at h2
        · rename_i str
          obtain ⟨z, rd3, rd4, h3, h4⟩ := Rd.run_bind h2
          have hz := rdV_run h h3
          split at h4
          · rename_i k i
            obtain rfl := ret_run h4
            have hu := isStrT_spec ht.1
            have hi : 0 ≤ i ∧ i < (str.size : Int) := hp _ (by simp)
            refine wpIn_value hF (by simp) (v := .int .u8 (strAt str i)) (W' := W) ?_ (hK β _ W (.refl _) h rfl)
            have hlt : i.toNat < str.size := by omega
            have hb : str[i.toNat]? = some (str[i.toNat]'hlt) := by simp [hlt]
            have hs : strAt str i = ((str[i.toNat]'hlt).toNat : Int) := by unfold strAt; rw [hb]; rfl
            rw [hs]
            simp only [execOp, hy, hz, Instr.index, asIntOf, Sem.run_bind, Sem.run_pure, Result.andThen_ok, run_underlying hu, hi.1, if_true, hb]
          · cases h4
        · cases h2
      | false =>
      rw [ht] at hr
      simp only [cond_false] at hr
      split at hr
      · rename_i j
        unfold ixRd at hr
        obtain ⟨vs, rd1, rd2, h1, h2⟩ := Rd.run_bind hr
        have hvs := rdVs_run h h1
        split at h2
        · rename_i x' k' i'
          split at h2
          · rename_i v hv
            obtain rfl := ret_run h2
            have hi : i' = (j : Int) := hp _ (by simp)
            subst hi
            refine wpIn_value hF (by simp) (v := v) (W' := W) ?_ (hK β v W (.refl _) h rfl)
            have hc : execOp a.eval ⟨dst, .index t x ix, type, pos, after, guard⟩ = execOp (rho (Op.index t x ix).operands.toList [x', .int k' (j : Int)]) ⟨dst, .index t x ix, type, pos, after, guard⟩ := execOp_congr _ (by simp) (fun y hy => by
              rw [hvs, rho_eval a _ y (by simpa using hy)])
            rw [hc]
            exact pureRun_run hv W
          · cases h2
        · cases h2
      · exact fb (by simp) (by simp) hr
  case convert src dst x =>
    obtain ⟨y, rd1, rd2, h1, h2⟩ := Rd.run_bind hr
    have hy := rdX_run h h1
    split at h2
    · rename_i b off nn cap
      obtain ⟨⟨c, ty⟩, rd3, rd4, h3, h4⟩ := Rd.run_bind h2
      dsimp only at h4
      split at h4
      · rename_i vs hvs
        cases hl : Nat.beq (((vs.drop off).take nn).length) nn with
        | false => rw [hl] at h4; cases h4
        | true =>
          rw [hl] at h4
          obtain ⟨r, rd5, rd6, h5, h6⟩ := Rd.run_bind h4
          obtain rfl := ret_run h6
          obtain ⟨k, cells, hk, hc, hh⟩ := rdB_cells h h3
          have hd := dens_plain hvs (dens_ctList hc)
          simp only [den, hk, Option.map_some, Option.some.injEq] at hy
          refine wpIn_value hF (by simp) (v := .string r) (W' := W) ?_ (hK β _ W (.refl _) h rfl)
          have hn := Nat.eq_of_beq_eq_true hl
          have := textOf_run (P := P) (W := W) (cap := cap) (off := off) (rdP_run h5) hh (fun j v hj => by
            rw [List.getElem?_take] at hj
            split at hj
            · rw [List.getElem?_drop] at hj
              rw [← hd] at hj
              simpa using hj
            · cases hj)
          rw [hn] at this
          simp only [execOp, ← hy, Sem.run_bind, this, Result.andThen_ok, Sem.run_pure]
      · cases h4
    · exact fb (by simp) (by simp) h2
  case range t x =>
    obtain ⟨y, rd1, rd2, h1, h2⟩ := Rd.run_bind hr
    have hy := rdV_run h h1
    split at h2
    · rename_i str
      cases ht : isStrT P t && Nat.blt nm gbase with
      | false => rw [ht] at h2; cases h2
      | true =>
        rw [ht] at h2
        simp only [Bool.and_eq_true] at ht
        simp only [cond_true, Rd.run, St.get] at h2
        cases hl : memN nm S.us with
        | true => simp [hl, Rd.run] at h2
        | false =>
          simp only [hl, cond_false, Rd.run, Option.some.injEq, Prod.mk.injEq] at h2
          obtain ⟨rfl, _⟩ := h2
          obtain ⟨β', hm, hnm, hR⟩ := h.newO (c := .iter str 0) (ty := 0) rfl hl (by simpa [Nat.blt_eq] using ht.2)
          refine wpIn_value hF (by simp) (v := .pointer (some ⟨W.heap.size, 0, none⟩)) (W' := W.alloc (.stringIter str 0)) ?_ (hK β' _ _ hm hR (by simp [den, adr, hnm]))
          simp only [execOp, hy, Instr.range, Sem.run_bind, run_underlying (isStrT_spec ht.1), Result.andThen_ok, Sem.run_pure]
          rfl
    · cases h2
  case next x isS =>
    cases isS with
    | false => cases hr
    | true =>
      obtain ⟨y, rd1, rd2, h1, h2⟩ := Rd.run_bind hr
      have hy := rdX_run h h1
      split at h2
      · rename_i b off
        split at h2
        · obtain ⟨⟨str, pos', ty⟩, rd3, rd4, h3, h4⟩ := Rd.run_bind h2
          obtain ⟨hlk, k, hk, hh⟩ := rdI_run h h3
          simp only [den, adr, hk, Option.map_some, Option.some.injEq] at hy
          dsimp only at h4
          split at h4
          · obtain rfl := ret_run h4
            have hlt : pos' < str.size := hp _ (by simp)
            refine wpIn_value hF (by simp) (v := .tuple #[.bool true, .int .i64 pos', .int .i32 ((Utf8.decode str pos').1 : Int)]) (W' := W.putObj k (.stringIter str (pos' + (Utf8.decode str pos').2))) ?_ (hK β _ _ (.refl _) (h.turnI hk hh) rfl)
            simp only [execOp, ← hy, Instr.next, getObj, setObj, Sem.run_bind, Sem.run, hh, Result.andThen, hlt, if_true]
            rfl
          · obtain rfl := ret_run h4
            have hlt : ¬ pos' < str.size := hp _ (by simp)
            refine wpIn_value hF (by simp) (v := .tuple #[.bool false]) (W' := W) ?_ (hK β _ _ (.refl _) h rfl)
            simp only [execOp, ← hy, Instr.next, getObj, Sem.run_bind, Sem.run, hh, Result.andThen, hlt, if_false]
            rfl
        · cases h2
      · cases h2
  case select _ _ => cases hr
  case defer c =>
    have hr' : (fallback P ⟨dst, .defer c, type, pos, after, guard⟩).run S = some (res, rd) := hr
    obtain ⟨v, hv, rfl⟩ := fallback_run h (by simp) hr'
    simp only [execOp, Sem.run_bind] at hv
    generalize (resolve a.eval c type).run P W = q at hv
    cases q with
    | ok d w => simp [Result.andThen] at hv
    | halt x w => simp [Result.andThen] at hv
  all_goals exact fb (by simp) (by simp) hr
end
end Go.Sx
