/-
  A symbolic executor for the model's code, eighth part: code.
-/
import Derived.Test.YtjfcndiodbaejaaDoorSxG
import Derived.RangeFuncLeaves
import Derived.RangeFuncRecord
namespace Go.Sx
open Go Go.RowKit

inductive Out where
  | normal
  | exit (id : Nat)
  | ret
  | goto (l : Nat)
  | panic (v : Value)

def Out.exit' : Out → Exit
  | .normal => .normal
  | .exit id => .exit id
  | .ret => .ret
  | .goto l => .goto l
  | .panic v => .panic [{ v, recovered := false }]

structure Fin where
  out : Out
  S : St
  ds : List Dec
  ps : List Prop
  cnt : Nat
  m : Nat

/-- A piece of code (a loop, a scope, a range over a function) that was proved by hand. -/
structure CodeC (P : Program) where
  c : Code
  N : Nat
  run : St → Option (Out × St × List Prop)
  sound : ∀ {F : Fence} {n : Nat} {w0 : World} {B : Nat} {O : Fr} {m : Nat} {β : Ren} {S : St} {a : Act} {W : World} {Q : Exit → Act → World → Prop} {out : Out} {S' : St} {ps : List Prop},
    Loose F → run S = some (out, S', ps) → (∀ p ∈ ps, p) → R β w0 B N O m S a W → (∀ β' a' W', Ext β β' → R β' w0 B N O m S' a' W' → Q out.exit' a' W') → c.wpIn F n P Q a W

/-- How a frame goes on its way out: returning, or by a panic. -/
def modeOf : Option Value → FrameMode
  | none => .returning
  | some v => .panicking [{ v, recovered := false }]

/-- A deferred function literal that was proved by hand: what it makes of the state; behind it the frame returns. -/
structure DefC (P : Program) where
  g : Nat
  run : List (Nat × Nat) → Option Value → St → Option St
  sound : ∀ {F : Fence} {n : Nat} {w0 : World} {B N : Nat} {O : Fr} {m : Nat} {β : Ren} {S S' : St} {a : Act} {W : World} {caps : List (Nat × Nat)} {capvs : List Value} {pv : Option Value},
    Loose F → F.round = none → run caps pv S = some S' → R β w0 B N O m S a W → adrs β caps = some capvs →
      CallsDIn F n P g capvs.toArray (modeOf pv) W (fun e u' W' => ∃ v β', e = .returned v ∧ settle u' = .returning ∧ Ext β β' ∧ R β' w0 B N O m S' a W')

structure Env (P : Program) where
  cts : Cts P
  lps : List (CodeC P)
  fuel : Nat
  dfs : List (DefC P)

abbrev Sub := Nat → Bool → Code → St → List Dec → Nat → Nat → Option Fin

structure Up where
  big : Big
  code : Sub

def entsPs : List Ent → List Prop → List Prop
  | [], ps => ps
  | e :: r, ps => e.ps ++ entsPs r ps

def readB (S : St) (c : Operand) : Option Bool :=
  match (rdV c).run S with
  | some (.bool b, _) => some b
  | _ => none

def getL {α : Type} : List α → Nat → Option α
  | [], _ => none
  | x :: r, i => match i with
    | 0 => some x
    | i + 1 => getL r i

def handled {P : Program} (E : Env P) (N : Nat) (c : Code) (S : St) (ds : List Dec) (cnt m : Nat) (alt : Option Fin) : Option Fin :=
  match ds with
  | .n k :: r => match getL E.lps k with
    | some h => bif Nat.beq h.N N then
        match h.run S with
        | some (o, S', ps) => some ⟨o, S', r, (h.c = c) :: ps, cnt, m⟩
        | none => none
      else none
    | none => none
  | _ => alt

def iter (f : St → List Dec → Nat → Nat → Option Fin) : Nat → St → List Dec → Nat → Nat → Option Fin
  | 0, _, _, _, _ => none
  | k + 1, S, ds, cnt, m => match f S ds cnt m with
    | some ⟨.normal, S1, ds1, ps1, c1, m1⟩ => match iter f k S1 ds1 c1 m1 with
      | some ⟨o, S2, ds2, ps2, c2, m2⟩ => some ⟨o, S2, ds2, ps1 ++ ps2, c2, m2⟩
      | none => none
    | r => r

/-- Jumps to labels of a scope. -/
def jumps (f : Code → St → List Dec → Nat → Nat → Option Fin) (c : Code) : Nat → Fin → Option Fin
  | k, ⟨.goto l, S, ds, ps, cnt, m⟩ => match findLabel c l with
    | none => some ⟨.goto l, S, ds, ps, cnt, m⟩
    | some rest => match k with
      | 0 => none
      | k + 1 => match f rest S ds cnt m with
        | some r => match jumps f c k r with
          | some ⟨o, S2, ds2, ps2, c2, m2⟩ => some ⟨o, S2, ds2, ps ++ ps2, c2, m2⟩
          | none => none
        | none => none
  | _, r => some r

def funOk (P : Program) (g : Nat) : Bool :=
  match P.funcs[g]? with
  | some fn => fn.body.isSome && !(fn.name == "runtime.NumGoroutine")
  | none => false

def rangeExec (P : Program) (up : Up) (N : Nat) (inR : Bool) (g : Operand) (ps : Array Tmp) (asg body : Code) (S : St) (ds : List Dec) (cnt m : Nat) : Option Fin :=
  bif inR then none else
  match (rdX g).run S with
  | some (.fn gf caps, _) =>
    bif memN cnt S.us || !(Nat.blt cnt gbase && funOk P gf) then none else
    match up.big (.fn gf caps) [.yld cnt] { S with ls := (cnt, ⟨.ready, none, S.ts, N, ps.toList, asg, body⟩) :: S.ls, us := cnt :: S.us } ds (cnt + 1) with
    | some ⟨_, S2, ds2, ps2, c2, none⟩ => match look S2.ls cnt with
      | some q2 => match q2.st with
        | .busy => none
        | _ =>
          let S3 : St := { S2 with ls := (cnt, { q2 with st := .exhausted }) :: S2.ls }
          match q2.pend with
          | none => some ⟨.normal, S3, ds2, ps2, c2, m + 1⟩
          | some .ret => some ⟨.ret, S3, ds2, ps2, c2, m + 1⟩
          | some (.exit id) => some ⟨.exit id, S3, ds2, ps2, c2, m + 1⟩
          | some (.goto l) => some ⟨.goto l, S3, ds2, ps2, c2, m + 1⟩
          | some _ => none
      | none => none
    | _ => none
  | _ => none

def exec (P : Program) (E : Env P) (up : Up) (N : Nat) (inR : Bool) : Code → St → List Dec → Nat → Nat → Option Fin
  | .skip, S, ds, cnt, m => some ⟨.normal, S, ds, [], cnt, m⟩
  | .label _, S, ds, cnt, m => some ⟨.normal, S, ds, [], cnt, m⟩
  | .region _ ops draw, S, ds, cnt, m => match runOps P E.cts up.big N ops cnt ops.toList 0 S ds (cnt + ops.size) with
    | some (L, S', ds', cnt', none) => match draw with
      | false => some ⟨.normal, S', ds', entsPs L [], cnt', m⟩
      | true => bif drawOk ops L then some ⟨.normal, S', ds', entsPs L [], cnt', m⟩ else none
    | some (L, _, ds', cnt', some q) => match draw with
      | false => some ⟨.panic q.v, q.T, ds', entsPs L q.ps, cnt', m⟩
      | true => bif drawPOk ops L q.i then some ⟨.panic q.v, q.T, ds', entsPs L q.ps, cnt', m⟩ else none
    | none => none
  | .seq x y, S, ds, cnt, m => match exec P E up N inR x S ds cnt m with
    | some ⟨.normal, S1, ds1, ps1, c1, m1⟩ => match exec P E up N inR y S1 ds1 c1 m1 with
      | some ⟨o, S2, ds2, ps2, c2, m2⟩ => some ⟨o, S2, ds2, ps1 ++ ps2, c2, m2⟩
      | none => none
    | r => r
  | .cond c x y, S, ds, cnt, m => match readB S c with
    | some b => match ds with
      | .b true :: r => match exec P E up N inR x S r cnt m with
        | some ⟨o, S1, ds1, ps1, c1, m1⟩ => some ⟨o, S1, ds1, (b = true) :: ps1, c1, m1⟩
        | none => none
      | .b false :: r => match exec P E up N inR y S r cnt m with
        | some ⟨o, S1, ds1, ps1, c1, m1⟩ => some ⟨o, S1, ds1, (b = false) :: ps1, c1, m1⟩
        | none => none
      | ds => match b with
        | true => exec P E up N inR x S ds.tail cnt m
        | false => exec P E up N inR y S ds.tail cnt m
    | none => none
  | .block id c, S, ds, cnt, m => match exec P E up N inR c S ds cnt m with
    | some ⟨.exit id', S1, ds1, ps1, c1, m1⟩ => bif Nat.beq id' id then some ⟨.normal, S1, ds1, ps1, c1, m1⟩ else some ⟨.exit id', S1, ds1, ps1, c1, m1⟩
    | r => r
  | .loop c, S, ds, cnt, m => handled E N (.loop c) S ds cnt m (iter (fun S ds cnt m => exec P E up N inR c S ds cnt m) E.fuel S ds.tail cnt m)
  | .scope c, S, ds, cnt, m => handled E N (.scope c) S ds cnt m (match exec P E up N inR c S ds.tail cnt m with
    | some r => jumps (fun c S ds cnt m => up.code N inR c S ds cnt m) c E.fuel r
    | none => none)
  | .rangeFunc g ps x y, S, ds, cnt, m => handled E N (.rangeFunc g ps x y) S ds cnt m (rangeExec P up N inR g ps x y S ds.tail cnt m)
  | .exit id, S, ds, cnt, m => some ⟨.exit id, S, ds, [], cnt, m⟩
  | .ret, S, ds, cnt, m => some ⟨.ret, S, ds, [], cnt, m⟩
  | .goto l, S, ds, cnt, m => some ⟨.goto l, S, ds, [], cnt, m⟩
  | .refuse _, _, _, _, _ => none

/-- What is asked of an executor of code. -/
structure CodeOk (P : Program) (f : Sub) : Prop where
  go : ∀ {N : Nat} {inR : Bool} {c : Code} {S : St} {ds : List Dec} {cnt m : Nat} {r : Fin}, f N inR c S ds cnt m = some r → (∀ p ∈ r.ps, p) →
    ∀ {F : Fence} {n : Nat} {w0 : World} {B : Nat} {O : Fr} {β : Ren} {a : Act} {W : World} {Q : Exit → Act → World → Prop}, Loose F → (inR = false → F.round = none) → R β w0 B N O m S a W →
      (∀ β' a' W', Ext β β' → R β' w0 B N O r.m r.S a' W' → Q r.out.exit' a' W') → c.wpIn F n P Q a W

structure UpOk (P : Program) (up : Up) : Prop where
  big : BigOk P up.big
  code : CodeOk P up.code

theorem entsPs_tail {ps : List Prop} : ∀ {L : List Ent}, (∀ p ∈ entsPs L ps, p) → ∀ p ∈ ps, p
  | [], h => h
  | x :: r, h => entsPs_tail (L := r) fun p hp => h p (by simp only [entsPs, List.mem_append]; exact .inr hp)

theorem range'_split {j n : Nat} (h : j ≤ n) : List.range' 0 j ++ List.range' j (n - j) = List.range' 0 n := by
  have := List.range'_append_1 (s := 0) (m := j) (n := n - j)
  rw [Nat.zero_add] at this
  rw [this]
  congr 1
  omega

theorem entsPs_mem {ps : List Prop} : ∀ {L : List Ent}, (∀ p ∈ entsPs L ps, p) → ∀ e ∈ L, ∀ p ∈ e.ps, p
  | [], _, e, he, _, _ => by simp at he
  | x :: r, h, e, he, p, hp => by
    simp only [entsPs, List.mem_append] at h
    rcases List.mem_cons.1 he with rfl | he
    · exact h p (.inl hp)
    · exact entsPs_mem (fun q hq => h q (.inr hq)) e he p hp

/-! ### Scopes -/
section scope
variable {F : Fence} {n : Nat} {P : Program}

/-- What is asked where the code of a scope is left, so many jumps being allowed. -/
def scopeJ (F : Fence) (n : Nat) (P : Program) (c : Code) (Q : Exit → Act → World → Prop) : Nat → Exit → Act → World → Prop
  | k, .goto l, a, w => match findLabel c l with
    | none => Q (.goto l) a w
    | some rest => match k with
      | 0 => False
      | k + 1 => rest.wpIn F n P (scopeJ F n P c Q k) a w
  | _, e, a, w => Q e a w

theorem stepR_scope {b : Frame} {a : Act} {k : List Item} {cs : List Frame} {w : World} {c : Code} : step P (lone (b.atR a (.code (.scope c) :: k)) cs w) = .next (lone (b.atR a (.code c :: .inScope c :: k)) cs w) :=
  step_lone_go (by simp [stepG, stepG.exec, Frame.atR])

theorem stepR_inScope {b : Frame} {a : Act} {k : List Item} {cs : List Frame} {w : World} {c : Code} : step P (lone (b.atR a (.inScope c :: k)) cs w) = .next (lone (b.atR a k) cs w) :=
  step_lone_go (by simp [stepG, stepG.exec, Frame.atR])

theorem wpIn_scope {c : Code} {Q : Exit → Act → World → Prop} {a : Act} {w : World} (k : Nat) (h : c.wpIn F n P (scopeJ F n P c Q k) a w) : (Code.scope c).wpIn F n P Q a w := by
  intro b kk cs hro hb hr
  have key : ∀ k (x : Code) (a : Act) (w : World), x.wpIn F n P (scopeJ F n P c Q k) a w →
      ∃ e a' w', Q e a' w' ∧ ArrivesIn (Machine.fenced P F) P (lone (b.atR a (.code x :: .inScope c :: kk)) cs w) b kk cs e a' w' := by
    intro k
    induction k with
    | zero =>
      intro x a w hx
      obtain ⟨e, a₁, w₁, hq, harr⟩ := hx b (.inScope c :: kk) cs hro hb hr
      cases e with
      | normal => exact ⟨.normal, a₁, w₁, hq, StepsIn.trans harr (.one (fenced_calm hb hr rfl) stepR_inScope)⟩
      | exit id =>
        have hx : exitTo id (.inScope c :: kk) = exitTo id kk := by simp [exitTo]
        exact ⟨.exit id, a₁, w₁, hq, fun k' hk => harr.1 k' (by rw [hx]; exact hk), fun hr' hk => harr.2 hr' (by rw [hx]; exact hk)⟩
      | goto l =>
        simp only [scopeJ] at hq
        cases hf : findLabel c l with
        | none =>
          rw [hf] at hq
          have hg : gotoIn l (.inScope c :: kk) = gotoIn l kk := by simp [gotoIn, hf]
          exact ⟨.goto l, a₁, w₁, hq, fun k' hk => harr.1 k' (by rw [hg]; exact hk), fun hr' hk => harr.2 hr' (by rw [hg]; exact hk)⟩
        | some rest => rw [hf] at hq; exact hq.elim
      | ret => exact ⟨_, a₁, w₁, hq, harr⟩
      | panic ch => exact ⟨_, a₁, w₁, hq, harr⟩
      | outgrown => exact ⟨_, a₁, w₁, hq, harr⟩
    | succ k ih =>
      intro x a w hx
      obtain ⟨e, a₁, w₁, hq, harr⟩ := hx b (.inScope c :: kk) cs hro hb hr
      cases e with
      | normal => exact ⟨.normal, a₁, w₁, hq, StepsIn.trans harr (.one (fenced_calm hb hr rfl) stepR_inScope)⟩
      | exit id =>
        have hx : exitTo id (.inScope c :: kk) = exitTo id kk := by simp [exitTo]
        exact ⟨.exit id, a₁, w₁, hq, fun k' hk => harr.1 k' (by rw [hx]; exact hk), fun hr' hk => harr.2 hr' (by rw [hx]; exact hk)⟩
      | goto l =>
        simp only [scopeJ] at hq
        cases hf : findLabel c l with
        | none =>
          rw [hf] at hq
          have hg : gotoIn l (.inScope c :: kk) = gotoIn l kk := by simp [gotoIn, hf]
          exact ⟨.goto l, a₁, w₁, hq, fun k' hk => harr.1 k' (by rw [hg]; exact hk), fun hr' hk => harr.2 hr' (by rw [hg]; exact hk)⟩
        | some rest =>
          rw [hf] at hq
          obtain ⟨e₂, a₂, w₂, hq₂, harr₂⟩ := ih rest a₁ w₁ hq
          have hg : gotoIn l (.inScope c :: kk) = some (.code rest :: .inScope c :: kk) := by simp [gotoIn, hf]
          exact ⟨e₂, a₂, w₂, hq₂, .of_steps (harr.1 _ hg) harr₂⟩
      | ret => exact ⟨_, a₁, w₁, hq, harr⟩
      | panic ch => exact ⟨_, a₁, w₁, hq, harr⟩
      | outgrown => exact ⟨_, a₁, w₁, hq, harr⟩
  obtain ⟨e, a', w', hq, harr⟩ := key k c a w h
  exact ⟨e, a', w', hq, .of_steps (.one (fenced_calm hb hr rfl) stepR_scope) harr⟩

theorem scopeJ_eq (c : Code) (Q : Exit → Act → World → Prop) (k : Nat) (e : Exit) (a : Act) (w : World) (h : ∀ l, e ≠ .goto l) : scopeJ F n P c Q k e a w = Q e a w := by
  cases e with
  | goto l => exact absurd rfl (h l)
  | _ => cases k <;> rfl
end scope

section
variable {P : Program} {w0 : World} {B N : Nat} {O : Fr} {m : Nat} {S : St} {a : Act} {W : World} {β : Ren}

/-- The block for a range's deferred calls is laid, its mark taken. -/
theorem R.mark (h : R β w0 B N O m S a W) : R β w0 B N O (m + 1) S { a with defers := mark W.heap.size :: a.defers } (W.alloc (.deferred (some []))) :=
  { h.below (W' := W.alloc (.deferred (some []))) ((Below.refl _ W).alloc (Nat.le_refl _) _) with
    ts := h.ts
    dfr := by
      obtain ⟨ks, h1, h2, h3, h4⟩ := h.dfr
      refine ⟨W.heap.size :: ks, by simp [h1], by simp [h2], ?_, ?_⟩
      · refine List.nodup_cons.2 ⟨fun hmem => ?_, h3⟩
        exact absurd (Array.getElem?_eq_some_iff.1 (h4 _ hmem).2.2).1 (Nat.lt_irrefl _)
      · intro k hk
        rcases List.mem_cons.1 hk with rfl | hk
        · exact ⟨h.hB, ⟨fun b hb => absurd (h.lt b _ hb) (Nat.lt_irrefl _), fun r p hp _ e => absurd (h.rlt r p hp) (by rw [e]; exact Nat.lt_irrefl _)⟩, heap_alloc_new _ _⟩
        · obtain ⟨g1, g2, g3⟩ := h4 k hk
          exact ⟨g1, g2, Below.heap_alloc' _ _ g3⟩
    size := h.size }

/-- A loop's record is laid under a name. -/
theorem R.newLoop (h : R β w0 B N O m S a W) {nm : Nat} {q : LoopS} {r : Loop} (hr : LoopR β q r) (hn : memN nm S.us = false) (hg : nm < gbase) :
    ∃ β', Ext β β' ∧ β' nm = some W.heap.size ∧ R β' w0 B N O m { S with ls := (nm, q) :: S.ls, us := nm :: S.us } a (W.alloc (.loop r)) := by
  obtain ⟨hm, hR⟩ := h.newObj (.loop r) hn hg
  refine ⟨_, hm, by simp, ?_⟩
  exact { hR with
    ls := fun l q' hl => by
      rw [look_cons] at hl
      by_cases e : nm = l
      · subst e
        simp only [if_true, Option.some.injEq] at hl
        subst hl
        exact ⟨W.heap.size, r, by simp, heap_alloc_new _ _, hr.mono hm⟩
      · rw [if_neg e] at hl
        exact hR.ls l q' hl
    ts := hR.ts
    bs := hR.bs
    dom := hR.dom
    rdom := hR.rdom
    rs := hR.rs
    rb := hR.rb
    ro := hR.ro
    dfr := hR.dfr }

/-- A loop's record is turned. -/
theorem R.turnLoop (h : R β w0 B N O m S a W) {l k : Nat} {q : LoopS} {r : Loop} {q' : LoopS} {r' : Loop} (_ : look S.ls l = some q) (hk : β l = some k) (hh : W.heap[k]? = some (.loop r)) (hr' : LoopR β q' r') :
    R β w0 B N O m { S with ls := (l, q') :: S.ls } a (W.putObj k (.loop r')) := by
  have hlt : k < W.heap.size := (Array.getElem?_eq_some_iff.1 hh).1
  refine h.turnObj (bs' := S.bs) (ls' := (l, q') :: S.ls) hk (by simp) (fun j hj => World.putObj_heap_other hj) (World.putObj_heap_same hlt) rfl rfl rfl (fun _ _ hq _ => hq) ?_ ?_ ?_
  · intro b2 q2 hq hne
    rw [look_cons, if_neg (Ne.symm hne)] at hq
    exact hq
  · intro c ty hq
    obtain ⟨k2, cs, hk2, _, hh2⟩ := h.bs l c ty hq
    rw [hk] at hk2
    cases hk2
    rw [hh] at hh2
    cases hh2
  · intro q2 hq
    rw [look_cons, if_pos rfl] at hq
    simp only [Option.some.injEq] at hq
    subst hq
    exact ⟨r', rfl, hr'⟩
end

section
variable {P : Program} {E : Env P} {up : Up} {F : Fence} {n : Nat}

theorem readB_run {w0 : World} {B N : Nat} {O : Fr} {m : Nat} {β : Ren} {S : St} {a : Act} {W : World} {c : Operand} {b : Bool} (h : R β w0 B N O m S a W) (hb : readB S c = some b) : a.eval c = .bool b := by
  unfold readB at hb
  split at hb
  · rename_i b' rd hr
    simp only [Option.some.injEq] at hb
    subst hb
    exact rdV_run h hr
  · cases hb

theorem funOk_spec {g : Nat} (h : funOk P g = true) : ∃ fn, P.funcs[g]? = some fn ∧ fn.body.isNone = false ∧ (fn.name == "runtime.NumGoroutine") = false := by
  unfold funOk at h
  split at h
  · rename_i fn hf
    simp only [Bool.and_eq_true, Bool.not_eq_true'] at h
    exact ⟨fn, hf, by rw [← Option.not_isSome]; simp [h.1], h.2⟩
  · cases h

theorem run_callFunc_body {f : FuncId} {fn : Func} (hf : P.funcs[f]? = some fn) (hb : fn.body.isNone = false) (hn : (fn.name == "runtime.NumGoroutine") = false) (args : Array Value) (w : World) :
    (callFunc f args).run P w = .ok (.enter f args) w := by
  unfold callFunc
  simp only [Sem.run_bind, run_program, Result.andThen_ok, hf, hn, hb, Bool.false_eq_true, if_false, Sem.run_pure]

theorem rangeExec_wp (hup : UpOk P up) {N : Nat} {inR : Bool} {g : Operand} {pr : Array Tmp} {asg body : Code} {S : St} {ds : List Dec} {cnt m : Nat} {r : Fin} (he : rangeExec P up N inR g pr asg body S ds cnt m = some r) (hp : ∀ p ∈ r.ps, p)
    (hF : Loose F) (hro : inR = false → F.round = none) {w0 : World} {B : Nat} {O : Fr} {β : Ren} {a : Act} {W : World} {Q : Exit → Act → World → Prop} (h : R β w0 B N O m S a W)
    (hQ : ∀ β' a' W', Ext β β' → R β' w0 B N O r.m r.S a' W' → Q r.out.exit' a' W') : (Code.rangeFunc g pr asg body).wpIn F n P Q a W := by
  unfold rangeExec at he
  cases inR with
  | true => cases he
  | false =>
    have hround : F.round = none := hro rfl
    simp only [cond_false] at he
    split at he
    · rename_i gf caps rd hg
      have hgv := rdX_run h hg
      cases hchk : (memN cnt S.us || !(Nat.blt cnt gbase && funOk P gf)) with
      | true => rw [hchk] at he; cases he
      | false =>
        rw [hchk] at he
        simp only [cond_false] at he
        simp only [Bool.or_eq_false_iff, Bool.not_eq_false', Bool.and_eq_true] at hchk
        obtain ⟨hmem, hblt, hfun⟩ := hchk
        obtain ⟨fn, hfn, hfb, hfname⟩ := funOk_spec hfun
        split at he
        · rename_i x S2 ds2 ps2 c2 hb
          split at he
          · rename_i q2 hq2
            -- the statement
            refine wpIn_rangeFunc ?_
            intro fnid hfnid
            rw [hround]
            have hR1 := h.mark
            obtain ⟨β1, hE1, hβ1, hR2⟩ := hR1.newLoop (nm := cnt) (q := ⟨.ready, none, S.ts, N, pr.toList, asg, body⟩)
              (r := { state := .ready, pending := none, fn := fnid, tmps := a.tmps, params := pr, assign := asg, body := body, defers := W.heap.size })
              ⟨rfl, rfl, by simp, rfl, rfl, h.size, h.ts⟩ hmem (by simpa [Nat.blt_eq] using hblt)
            rw [World.size_alloc] at hβ1
            -- the function's value
            obtain ⟨cv, hcv, hgv'⟩ : ∃ cv, adrs β caps = some cv ∧ a.eval g = .func (.func gf) #[] cv.toArray := by
              simp only [den] at hgv
              split at hgv
              · rename_i l hl; simp only [Option.some.injEq] at hgv; exact ⟨l, hl, hgv.symm⟩
              · cases hgv
            have hden : den β1 (.fn gf caps) = some (.func (.func gf) #[] cv.toArray) := by
              simp only [den, adrs_mono hE1 hcv]
            have hent := run_enterLoop_outer (P := P) (w := W) fnid a.tmps pr asg body
            generalize hW1 : (W.alloc (.deferred (some []))).alloc (.loop { state := .ready, pending := none, fn := fnid, tmps := a.tmps, params := pr, assign := asg, body := body, defers := W.heap.size }) = W1 at hent hR2
            refine ⟨W.heap.size + 1, [Sx.mark W.heap.size], W1, { target := .fn (.func gf) cv.toArray, args := #[.func (.yield (W.heap.size + 1)) #[] #[]] }, W1, gf,
              #[.func (.yield (W.heap.size + 1)) #[] #[]] ++ cv.toArray, W1, hent, ?_, ?_, ?_, ?_, ?_⟩
            · simp only [resolve, hgv']
              simp [go_sem]
            · intro f' hf'; rw [hF.fn]; trivial
            · exact run_callFunc_body hfn hfb hfname _ _
            · intro hd; rw [hF.depth] at hd; exact absurd hd (by simp)
            · have hcall := hup.big.go (F := F) (n := n) hb ?_ hF hR2 (o := ⟨none, .move (.const undef), 0, "", #[], none⟩) hden (argvs := [.func (.yield (W.heap.size + 1)) #[] #[]]) (by simp [dens, den, hβ1])
                (K := fun a'' w'' => ∃ jump w₄, (Instr.endLoop (W.heap.size + 1)).run P w'' = .ok jump w₄ ∧ (match jump with
                  | none => Q .normal a'' w₄
                  | some c => c.wpIn F n P Q a'' w₄)) (Q := Q) ?_ (fun _ _ _ hpn => by cases hpn)
              · have hrun : (do let d ← Deferred.ofValue (.func (.func gf) #[] cv.toArray) ([.func (.yield (W.heap.size + 1)) #[] #[]] : List Value).toArray; invoke d.target d.args : Sem Next).run P W1 =
                    .ok (.enter gf (#[.func (.yield (W.heap.size + 1)) #[] #[]] ++ cv.toArray)) W1 := by
                  simp only [Deferred.ofValue, Sem.run_bind, Sem.run_pure, Result.andThen_ok, Array.empty_append, invoke]
                  exact run_callFunc_body hfn hfb hfname _ _
                rw [hrun, Oper.uponIn_enter] at hcall
                refine hcall.2.mono ?_
                intro e w'' he'
                cases e with
                | returned v => exact he'
                | panicked ch => exact he'
                | outgrown => exact he'
              · intro p hp'
                refine hp p ?_
                split at he
                · cases he
                · split at he <;> first | (simp only [Option.some.injEq] at he; subst he; exact hp') | cases he
              · intro β2 v W2 _ hE2 hR3 _
                obtain ⟨k2, r2, hk2, hh2, hr2⟩ := hR3.ls cnt q2 hq2
                have : k2 = W.heap.size + 1 := by
                  have := hE2 _ _ hβ1
                  rw [hk2] at this
                  simpa using this
                subst this
                have hbusy : q2.st ≠ .busy := by
                  intro hst
                  rw [hst] at he
                  cases he
                have hS3 := hR3.turnLoop (q' := { q2 with st := .exhausted }) (r' := { r2 with state := .exhausted }) hq2 hk2 hh2 ⟨rfl, hr2.pend, hr2.params, hr2.asg, hr2.body, hr2.size, hr2.ts⟩
                have hend := run_endLoop (P := P) hh2 (by rw [hr2.st]; exact hbusy)
                generalize W2.putObj (W.heap.size + 1) (.loop { r2 with state := .exhausted }) = W3 at hend hS3
                refine ⟨r2.pending, W3, hend, ?_⟩
                rw [hr2.pend]
                have hEE := hE1.trans hE2
                split at he
                · rename_i hst; exact absurd hst hbusy
                · split at he
                  · rename_i hpend
                    simp only [Option.some.injEq] at he; subst he
                    rw [hpend]
                    exact hQ _ _ _ hEE hS3
                  · rename_i hpend
                    simp only [Option.some.injEq] at he; subst he
                    rw [hpend]
                    exact wpIn_ret (hQ _ _ _ hEE hS3)
                  · rename_i id hpend
                    simp only [Option.some.injEq] at he; subst he
                    rw [hpend]
                    exact wpIn_exit (hQ _ _ _ hEE hS3)
                  · rename_i l hpend
                    simp only [Option.some.injEq] at he; subst he
                    rw [hpend]
                    exact wpIn_goto (hQ _ _ _ hEE hS3)
                  · cases he
          · cases he
        · cases he
    · cases he

theorem handled_wp {N : Nat} {inR : Bool} {c : Code} {S : St} {ds : List Dec} {cnt m : Nat} {alt : Option Fin} {r : Fin} (he : handled E N c S ds cnt m alt = some r) (hp : ∀ p ∈ r.ps, p)
    (hF : Loose F) {w0 : World} {B : Nat} {O : Fr} {β : Ren} {a : Act} {W : World} {Q : Exit → Act → World → Prop} (h : R β w0 B N O m S a W)
    (hQ : ∀ β' a' W', Ext β β' → R β' w0 B N O r.m r.S a' W' → Q r.out.exit' a' W') (halt : alt = some r → c.wpIn F n P Q a W) (_ : inR = inR) : c.wpIn F n P Q a W := by
  unfold handled at he
  split at he
  · split at he
    · rename_i hd _
      cases hb : Nat.beq hd.N N with
      | false => rw [hb] at he; cases he
      | true =>
        rw [hb] at he
        simp only [cond_true] at he
        split at he
        · rename_i o S' ps hrun
          simp only [Option.some.injEq] at he; subst he
          have hc : hd.c = c := hp _ (by simp)
          have hN : hd.N = N := Nat.eq_of_beq_eq_true hb
          subst hc
          subst hN
          exact hd.sound hF hrun (fun p hp' => hp p (by simp [hp'])) h hQ
        · cases he
    · cases he
  · exact halt he

/-- WHAT THE EXECUTOR FINDS IS WHAT COMES. -/
theorem exec_wp (hm : P.follows .mixedOrders = true) (hup : UpOk P up) (hF : Loose F) {N : Nat} {inR : Bool} (hro : inR = false → F.round = none) : ∀ (c : Code) {S : St} {ds : List Dec} {cnt m : Nat} {r : Fin}, exec P E up N inR c S ds cnt m = some r → (∀ p ∈ r.ps, p) →
    ∀ {w0 : World} {B : Nat} {O : Fr} {β : Ren} {a : Act} {W : World} {Q : Exit → Act → World → Prop}, R β w0 B N O m S a W → (∀ β' a' W', Ext β β' → R β' w0 B N O r.m r.S a' W' → Q r.out.exit' a' W') → c.wpIn F n P Q a W := by
  intro c
  induction c with
  | skip =>
    intro S ds cnt m r he hp w0 B O β a W Q h hQ
    simp only [exec, Option.some.injEq] at he; subst he
    exact wpIn_skip (hQ β a W (.refl _) h)
  | label l =>
    intro S ds cnt m r he hp w0 B O β a W Q h hQ
    simp only [exec, Option.some.injEq] at he; subst he
    exact wpIn_label (hQ β a W (.refl _) h)
  | exit id =>
    intro S ds cnt m r he hp w0 B O β a W Q h hQ
    simp only [exec, Option.some.injEq] at he; subst he
    exact wpIn_exit (hQ β a W (.refl _) h)
  | ret =>
    intro S ds cnt m r he hp w0 B O β a W Q h hQ
    simp only [exec, Option.some.injEq] at he; subst he
    exact wpIn_ret (hQ β a W (.refl _) h)
  | goto l =>
    intro S ds cnt m r he hp w0 B O β a W Q h hQ
    simp only [exec, Option.some.injEq] at he; subst he
    exact wpIn_goto (hQ β a W (.refl _) h)
  | region id ops draw =>
    intro S ds cnt m r he hp w0 B O β a W Q h hQ
    simp only [exec] at he
    split at he
    · rename_i L S' ds' cnt' hr
      obtain ⟨hv, hL⟩ := runOps_spec hup.big (by simp) hr
      have hL : L.map (·.i) = List.range' 0 ops.toList.length := hL
      split at he
      · simp only [Option.some.injEq] at he; subst he
        have := valid_wp (Q := Q) (n := n) (rest := []) hF (fun β' a' W' hE hR => hQ β' a' W' hE hR) h hv (entsPs_mem hp)
        rw [List.append_nil, hL, Array.length_toList] at this
        refine wpIn_region ?_
        rw [List.range_eq_range']
        exact this
      · cases hd : drawOk ops L with
        | false => rw [hd] at he; cases he
        | true =>
          rw [hd] at he
          simp only [cond_true, Option.some.injEq] at he; subst he
          exact draw_wp hm hF (fun β' a' W' hE hR => hQ β' a' W' hE hR) h hv (by simpa using hL) (entsPs_mem hp) hd
    · rename_i L S' ds' cnt' q hr
      obtain ⟨hv, h1, h2, hL, hpan⟩ := runOps_spec hup.big (by simp) hr
      have hqs : q.i < ops.size := by simpa using h2
      have h0 : q.i - 0 = q.i := Nat.sub_zero _
      rw [h0] at hL
      split at he
      · simp only [Option.some.injEq] at he; subst he
        have := valid_wp (Q := Q) (n := n) (rest := List.range' q.i (ops.size - q.i)) hF (fun β' a' W' hE hR => by
          obtain ⟨k, hk⟩ : ∃ k, ops.size - q.i = k + 1 := ⟨ops.size - q.i - 1, by omega⟩
          rw [hk, List.range'_succ, wpOpsIn_cons]
          exact (hpan (entsPs_tail hp)).go hF hR fun β2 W2 hE2 hR2 => hQ β2 a' W2 (hE.trans hE2) hR2) h hv (entsPs_mem hp)
        refine wpIn_region ?_
        rw [List.range_eq_range']
        rw [hL, range'_split (Nat.le_of_lt hqs)] at this
        exact this
      · cases hd : drawPOk ops L q.i with
        | false => rw [hd] at he; cases he
        | true =>
          rw [hd] at he
          simp only [cond_true, Option.some.injEq] at he; subst he
          exact draw_wpP hm hF hqs (hpan (entsPs_tail hp)) (fun β' a' W' hE hR => hQ β' a' W' hE hR) h hv hL (entsPs_mem hp) hd
    · cases he
  | seq x y ihx ihy =>
    intro S ds cnt m r he hp w0 B O β a W Q h hQ
    simp only [exec] at he
    split at he
    · rename_i S1 ds1 ps1 c1 m1 hx
      split at he
      · rename_i o S2 ds2 ps2 c2 m2 hy
        simp only [Option.some.injEq] at he; subst he
        refine wpIn_seq (ihx hx (fun p hp' => hp p (by simp [hp'])) h fun β' a' W' hE hR => ?_)
        exact ihy hy (fun p hp' => hp p (by simp [hp'])) hR fun β2 a2 W2 hE2 hR2 => hQ β2 a2 W2 (hE.trans hE2) hR2
      · cases he
    · rename_i hno
      refine wpIn_seq (ihx he hp h fun β' a' W' hE hR => ?_)
      have := hQ β' a' W' hE hR
      obtain ⟨o, S1, ds1, ps1, c1, m1⟩ := r
      cases o with
      | normal => exact absurd he (hno _ _ _ _ _)
      | exit id => exact this
      | ret => exact this
      | goto l => exact this
      | panic v => exact this
  | cond c x y ihx ihy =>
    intro S ds cnt m r he hp w0 B O β a W Q h hQ
    simp only [exec] at he
    split at he
    · rename_i b hb
      have hc := readB_run h hb
      split at he
      · split at he
        · rename_i o S1 ds1 ps1 c1 m1 hx
          simp only [Option.some.injEq] at he; subst he
          have hbt : b = true := hp _ (by simp)
          subst hbt
          exact wpIn_cond hc (ihx hx (fun p hp' => hp p (by simp [hp'])) h hQ)
        · cases he
      · split at he
        · rename_i o S1 ds1 ps1 c1 m1 hx
          simp only [Option.some.injEq] at he; subst he
          have hbt : b = false := hp _ (by simp)
          subst hbt
          exact wpIn_cond hc (ihy hx (fun p hp' => hp p (by simp [hp'])) h hQ)
        · cases he
      · cases b with
        | true => exact wpIn_cond hc (ihx he hp h hQ)
        | false => exact wpIn_cond hc (ihy he hp h hQ)
    · cases he
  | block id c ih =>
    intro S ds cnt m r he hp w0 B O β a W Q h hQ
    simp only [exec] at he
    split at he
    · rename_i id' S1 ds1 ps1 c1 m1 hx
      cases hb : Nat.beq id' id with
      | true =>
        rw [hb] at he
        simp only [cond_true, Option.some.injEq] at he; subst he
        have := Nat.eq_of_beq_eq_true hb
        subst this
        refine wpIn_block (ih hx hp h fun β' a' W' hE hR => ?_)
        simp only [Out.exit', Exit.inBlock, if_true]
        exact hQ β' a' W' hE hR
      | false =>
        rw [hb] at he
        simp only [cond_false, Option.some.injEq] at he; subst he
        have := Nat.ne_of_beq_eq_false hb
        refine wpIn_block (ih hx hp h fun β' a' W' hE hR => ?_)
        simp only [Out.exit', Exit.inBlock, if_neg this]
        exact hQ β' a' W' hE hR
    · rename_i hno
      refine wpIn_block (ih he hp h fun β' a' W' hE hR => ?_)
      have := hQ β' a' W' hE hR
      obtain ⟨o, S1, ds1, ps1, c1, m1⟩ := r
      cases o with
      | normal => exact this
      | exit id => exact absurd he (hno _ _ _ _ _ _)
      | ret => exact this
      | goto l => exact this
      | panic v => exact this
  | loop c ih =>
    intro S ds cnt m r he hp w0 B O β a W Q h hQ
    simp only [exec] at he
    refine handled_wp (inR := inR) he hp hF h hQ (fun he => ?_) rfl
    refine wpIn_loop_rounds E.fuel ?_
    have key : ∀ k {S : St} {ds : List Dec} {cnt m : Nat} {r : Fin}, iter (fun S ds cnt m => exec P E up N inR c S ds cnt m) k S ds cnt m = some r → (∀ p ∈ r.ps, p) → ∀ {β : Ren} {a : Act} {W : World}, R β w0 B N O m S a W →
        (∀ β' a' W', Ext β β' → R β' w0 B N O r.m r.S a' W' → Q r.out.exit' a' W') → Code.roundsIn F n P c Q k a W := by
      intro k
      induction k with
      | zero => intro S ds cnt m r he; cases he
      | succ k ihk =>
        intro S ds cnt m r he hp β a W h hQ
        simp only [iter] at he
        rw [roundsIn_succ]
        split at he
        · rename_i S1 ds1 ps1 c1 m1 hx
          split at he
          · rename_i o S2 ds2 ps2 c2 m2 hy
            simp only [Option.some.injEq] at he; subst he
            refine ih hx (fun p hp' => hp p (by simp [hp'])) h fun β' a' W' hE hR => ?_
            exact ihk hy (fun p hp' => hp p (by simp [hp'])) hR fun β2 a2 W2 hE2 hR2 => hQ β2 a2 W2 (hE.trans hE2) hR2
          · cases he
        · rename_i hno
          refine ih he hp h fun β' a' W' hE hR => ?_
          have := hQ β' a' W' hE hR
          obtain ⟨o, S1, ds1, ps1, c1, m1⟩ := r
          cases o with
          | normal => exact absurd he (hno _ _ _ _ _)
          | exit id => exact this
          | ret => exact this
          | goto l => exact this
          | panic v => exact this
    exact key E.fuel he hp h hQ
  | scope c ih =>
    intro S ds cnt m r he hp w0 B O β a W Q h hQ
    simp only [exec] at he
    refine handled_wp (inR := inR) he hp hF h hQ (fun he => ?_) rfl
    refine wpIn_scope E.fuel ?_
    have key : ∀ k {x r : Fin}, jumps (fun c S ds cnt m => up.code N inR c S ds cnt m) c k x = some r → (∀ p ∈ r.ps, p) → ∀ {β0 β : Ren} {a : Act} {W : World}, Ext β0 β → R β w0 B N O x.m x.S a W →
        (∀ β' a' W', Ext β0 β' → R β' w0 B N O r.m r.S a' W' → Q r.out.exit' a' W') → scopeJ F n P c Q k x.out.exit' a W := by
      intro k
      induction k with
      | zero =>
        intro x r hj hp β0 β a W hE h hQ
        obtain ⟨o, S1, ds1, ps1, c1, m1⟩ := x
        cases o with
        | goto l =>
          simp only [jumps] at hj
          simp only [Out.exit', scopeJ]
          cases hf : findLabel c l with
          | none =>
            rw [hf] at hj
            simp only [Option.some.injEq] at hj; subst hj
            exact hQ β a W hE h
          | some rest => rw [hf] at hj; cases hj
        | _ =>
          simp only [jumps, Option.some.injEq] at hj; subst hj
          exact hQ β a W hE h
      | succ k ihk =>
        intro x r hj hp β0 β a W hE h hQ
        obtain ⟨o, S1, ds1, ps1, c1, m1⟩ := x
        cases o with
        | goto l =>
          simp only [jumps] at hj
          simp only [Out.exit', scopeJ]
          cases hf : findLabel c l with
          | none =>
            rw [hf] at hj
            simp only [Option.some.injEq] at hj; subst hj
            exact hQ β a W hE h
          | some rest =>
            rw [hf] at hj
            simp only at hj
            split at hj
            · rename_i r1 hr1
              split at hj
              · rename_i o2 S2 ds2 ps2 c2 m2 hr2
                simp only [Option.some.injEq] at hj; subst hj
                have hpm : ∀ {k : Nat} {x r : Fin}, jumps (fun c S ds cnt m => up.code N inR c S ds cnt m) c k x = some r → ∀ p ∈ x.ps, p ∈ r.ps := by
                  intro k x r hj p hp
                  obtain ⟨o, S1, ds1, ps1, c1, m1⟩ := x
                  cases o with
                  | goto l =>
                    unfold jumps at hj
                    split at hj
                    · simp only [Option.some.injEq] at hj; subst hj; exact hp
                    · split at hj
                      · cases hj
                      · split at hj
                        · split at hj
                          · simp only [Option.some.injEq] at hj; subst hj; simp only [List.mem_append]; exact .inl hp
                          · cases hj
                        · cases hj
                  | _ => simp only [jumps, Option.some.injEq] at hj; subst hj; exact hp
                refine hup.code.go hr1 (fun p hp' => hp p (by simp only [List.mem_append]; exact .inr (hpm hr2 p hp'))) hF hro h fun β' a' W' hE' hR => ?_
                exact ihk hr2 (fun p hp' => hp p (by simp only [List.mem_append]; exact .inr hp')) (hE.trans hE') hR hQ
              · cases hj
            · cases hj
        | _ =>
          simp only [jumps, Option.some.injEq] at hj; subst hj
          exact hQ β a W hE h
    split at he
    · rename_i r1 hr1
      have hpm : ∀ {k : Nat} {x r : Fin}, jumps (fun c S ds cnt m => up.code N inR c S ds cnt m) c k x = some r → ∀ p ∈ x.ps, p ∈ r.ps := by
        intro k x r hj p hp
        obtain ⟨o, S1, ds1, ps1, c1, m1⟩ := x
        cases o with
        | goto l =>
          unfold jumps at hj
          split at hj
          · simp only [Option.some.injEq] at hj; subst hj; exact hp
          · split at hj
            · cases hj
            · split at hj
              · split at hj
                · simp only [Option.some.injEq] at hj; subst hj; simp only [List.mem_append]; exact .inl hp
                · cases hj
              · cases hj
        | _ => simp only [jumps, Option.some.injEq] at hj; subst hj; exact hp
      exact ih hr1 (fun p hp' => hp p (hpm he p hp')) h fun β' a' W' hE hR => key E.fuel he hp hE hR hQ
    · cases he
  | rangeFunc f ps x y ih1 ih2 =>
    intro S ds cnt m r he hp w0 B O β a W Q h hQ
    simp only [exec] at he
    refine handled_wp (inR := inR) he hp hF h hQ (fun he => ?_) rfl
    exact rangeExec_wp hup he hp hF hro h hQ
  | refuse why => intro S ds cnt m r he; cases he
end
end Go.Sx
