/-
  A symbolic executor for the model's code, eleventh part: deferred function literals that recover.
-/
import Derived.Test.YtjfcndiodbaejaaDoorSxJ
import Derived.RecoverIn
namespace Go.Sx
open Go Go.RowKit

/-- Operations that come to a value, or end all. -/
def pureOp : Op → Bool
  | .move _ => true
  | .assign _ => true
  | .extract _ _ => true
  | .typeAssert _ _ _ _ => true
  | .binOp _ _ _ _ _ => true
  | .unOp _ _ _ => true
  | _ => false

theorem pureOp_spec {P : Program} {o : Oper} (h : pureOp o.op = true) (ρ : Operand → Value) (W : World) : (∃ v w', (execOp ρ o).run P W = .ok (.value v) w') ∨ ∃ e w', (execOp ρ o).run P W = .halt e w' := by
  have key : ∀ (s : Sem Value), (∃ v w', (do let x ← s; pure (Next.value x) : Sem Next).run P W = .ok (.value v) w') ∨ ∃ e w', (do let x ← s; pure (Next.value x) : Sem Next).run P W = .halt e w' := by
    intro s
    rw [Sem.run_bind]
    cases hs : s.run P W with
    | ok v w => left; exact ⟨v, w, rfl⟩
    | halt e w => right; exact ⟨e, w, rfl⟩
  obtain ⟨dst, op, type, pos, after, guard⟩ := o
  simp only at h
  cases op <;> simp only [pureOp] at h <;> first | (cases h; done) | skip
  all_goals
    simp only [execOp]
    first | exact key _ | exact .inl ⟨_, W, rfl⟩

def recOps (P : Program) (N : Nat) (ops : Array Oper) : List Nat → St → Option St
  | [], S => some S
  | i :: r, S => match ops[i]? with
    | some o => bif pureOp o.op && o.guard.isNone then
        (match (sop P ⟨[], []⟩ N ops o 0 .lit).run S with
        | some ((wr, []), _) => recOps P N ops r (S.puts wr)
        | _ => none) else none
    | none => none

theorem recOps_wp {P : Program} {F : Fence} {n : Nat} {ops : Array Oper} {Q : Exit → Act → List Frame → World → Prop} {w0 : World} {B N : Nat} {O : Fr} {m : Nat} {cs : List Frame} (hF : Loose F) (hro : F.round = none) :
    ∀ {l : List Nat} {S S' : St} {β : Ren} {a : Act} {W : World}, recOps P N ops l S = some S' → R β w0 B N O m S a W → (∀ β' a' W', Ext β β' → R β' w0 B N O m S' a' W' → Q .normal a' cs W') → wpOpsSIn F n P ops Q l a cs W
  | [], S, S', β, a, W, hr, h, hQ => by
    simp only [recOps, Option.some.injEq] at hr; subst hr
    exact hQ β a W (.refl _) h
  | i :: r, S, S', β, a, W, hr, h, hQ => by
    simp only [recOps] at hr
    split at hr
    · rename_i o ho
      cases hp : (pureOp o.op && o.guard.isNone) with
      | false => rw [hp] at hr; cases hr
      | true =>
        rw [hp] at hr
        simp only [cond_true] at hr
        simp only [Bool.and_eq_true] at hp
        split at hr
        · rename_i wr rd hs
          have hw : Region.wanted o (yielded ops a.tmps) = true := by
            have : o.guard = none := by simpa using hp.2
            simp [Region.wanted, this]
          have h1 := sop_wp (K := fun a' W' => wpOpsSIn F n P ops Q r a' cs W') (Q := fun _ _ _ => False) (n := n) hF ho h hs (by simp)
            (fun β' a' W' hE hR => recOps_wp hF hro hr hR fun β2 a2 W2 hE2 hR2 => hQ β2 a2 W2 (hE.trans hE2) hR2)
          unfold wpOpIn at h1
          simp only [ho] at h1
          rw [if_pos hw] at h1
          obtain ⟨h2, h3⟩ := h1
          have hnd : ∀ c, o.op ≠ .defer c := fun c e => by rw [e] at hp; simp [pureOp] at hp
          rw [Oper.semAt_eq _ _ _ hnd] at h3
          simp only [wpOpsSIn, ho]
          refine ⟨h2, ?_⟩
          rw [if_pos hw]
          rcases pureOp_spec (P := P) hp.1 a.eval W with ⟨v, w', he⟩ | ⟨e, w', he⟩
          · rw [he] at h3 ⊢
            exact h3
          · rw [he] at h3
            exfalso
            cases e <;> exact h3
        · cases hr
    · cases hr

/-- What 'recover' finds. -/
def recVal : Option Value → Value
  | none => .nilIface
  | some v => v

def recGo (P : Program) (E : Env P) (lv N d : Nat) (ops : Array Oper) (rest : Code) (caps : List (Nat × Nat)) (pv : Option Value) (S : St) : Option St :=
  match recOps P N ops (List.range' 1 (ops.size - 1)) ({ S with ts := svArgs 0 (capSVs caps) }.put (.t d (.v (recVal pv)))) with
  | some S1 => match codeN P E lv N false rest S1 [] 900000000 0 with
    | some ⟨o, S2, _, [], _, 0⟩ => match o with
      | .normal => some { S2 with ts := S.ts }
      | .ret => some { S2 with ts := S.ts }
      | _ => none
    | _ => none
  | none => none

/-- A deferred literal whose first operation recovers. -/
def recC {P : Program} (hm : P.follows .mixedOrders = true) (E : Env P) (hd : dfsOk E.dfs = true) (lv g id d : Nat) (fn : Func) (ops : Array Oper) (rest : Code) (o0 : Oper) (hf : P.funcs[g]? = some fn) (hb : fn.body = some (.seq (.region id ops false) rest))
    (h0 : ops[0]? = some o0) (hsz : 0 < ops.size) (ho : o0.op = .call ⟨.builtin .recover, #[], #[]⟩) (hdst : o0.dst = some d) (hg : o0.guard = none) (hdN : d < fn.ntmps) (hres : fn.results.toList = []) : DefC P where
  g := g
  run := fun caps pv S => bif Nat.ble caps.length fn.ntmps then recGo P E lv fn.ntmps d ops rest caps pv S else none
  sound := by
    intro F n w0 B N O m β S S' a W caps capvs pv hF hro hrun h hcap
    cases hle : Nat.ble caps.length fn.ntmps with
    | false => rw [hle] at hrun; cases hrun
    | true =>
    rw [hle] at hrun
    simp only [cond_true] at hrun
    have hden := capSVs_den hcap
    have hlen : capvs.length ≤ fn.ntmps := by
      have h1 := dens_length hden
      have h2 : (capSVs caps).length = caps.length := by
        clear hcap hden h1 hrun hle
        induction caps with
        | nil => rfl
        | cons p r ih => simp [capSVs, ih]
      rw [← h1, h2]
      exact Nat.le_of_ble_eq_true hle
    have hR0 := h.enter (N' := fn.ntmps) (args_ts (N := fn.ntmps) hden) (by simp; omega)
    refine callsDIn_of_wpSIn hf hb (by rw [hF.fn]; trivial) fun c₀ cs hmode => ?_
    refine wpSIn_seq (wpSIn_region ?_)
    unfold recGo at hrun
    split at hrun
    · rename_i S1 hrec
      split at hrun
      · rename_i o S2 ds2 c2 hcode
        -- recover
        obtain ⟨u', hu', hset⟩ : ∃ u', (match recoverD (c₀ :: cs) with
            | some (v, cs') => v = recVal pv ∧ cs' = { c₀ with mode := u' } :: cs
            | none => Value.nilIface = recVal pv ∧ { c₀ with mode := u' } = c₀) ∧ settle u' = .returning := by
          cases pv with
          | none => exact ⟨.returning, by simp only [recoverD, hmode, modeOf, recVal]; exact ⟨trivial, by rw [show FrameMode.returning = c₀.mode from hmode.symm]⟩, rfl⟩
          | some v => exact ⟨.panicking [{ v, recovered := true }], by simp only [recoverD, hmode, modeOf, recVal]; exact ⟨trivial, trivial⟩, rfl⟩
        have hrange : List.range ops.size = 0 :: List.range' 1 (ops.size - 1) := by
          rw [List.range_eq_range']
          obtain ⟨k, hk⟩ : ∃ k, ops.size = k + 1 := ⟨ops.size - 1, by omega⟩
          rw [hk, List.range'_succ]
          simp
        rw [hrange]
        have hRd : ∀ a0 : Act, a0 = { tmps := capvs.toArray ++ Array.replicate (fn.ntmps - capvs.toArray.size) undef, defers := [] } →
            R β W W.heap.size fn.ntmps ⟨fun b => ∃ k, β b = some k, fun k => ∃ r p, β.r r = some p ∧ p.own = true ∧ p.k = k, []⟩ 0 ({ S with ts := svArgs 0 (capSVs caps) }.put (.t d (.v (recVal pv)))) (a0.put (some d) (recVal pv)) W := fun a0 ha => by
          subst ha
          exact hR0.putT rfl hdN
        generalize ha0 : ({ tmps := capvs.toArray ++ Array.replicate (fn.ntmps - capvs.toArray.size) undef, defers := [] } : Act) = a0
        have hRd := hRd a0 ha0.symm
        have fin : wpOpsSIn F n P ops (Exit.thenS (rest.wpSIn F n P (bodyPostS P fn c₀ cs fun e u' W' => ∃ v β', e = .returned v ∧ settle u' = .returning ∧ Ext β β' ∧ R β' w0 B N O m S' a W')) (bodyPostS P fn c₀ cs fun e u' W' => ∃ v β', e = .returned v ∧ settle u' = .returning ∧ Ext β β' ∧ R β' w0 B N O m S' a W'))
            (List.range' 1 (ops.size - 1)) (a0.put (some d) (recVal pv)) ({ c₀ with mode := u' } :: cs) W := by
          refine recOps_wp hF hro hrec hRd fun β1 a1 W1 hE1 hR1 => ?_
          show rest.wpSIn F n P _ a1 _ W1
          refine wpSIn_of_wpIn hro ?_
          refine (codeN_ok hm E hd lv).go hcode (by simp) hF (fun _ => hro) hR1 fun β2 a2 W2 hE2 hR2 => ?_
          have hdf : a2.defers = [] := by
            obtain ⟨ks, k1, k2, _, _⟩ := hR2.dfr
            obtain rfl : ks = [] := List.length_eq_zero_iff.1 k1
            simpa using k2
          have hback := h.back hR2 (hE1.trans hE2)
          have hresv : ∃ v, (results fn a2.tmps).run P W2 = .ok v W2 := by
            obtain ⟨v, _, hv⟩ := resTup_run (fn := fn) (y := .v (.tuple #[])) hR2 (by rw [hres]; rfl)
            exact ⟨v, hv⟩
          obtain ⟨v, hv⟩ := hresv
          split at hrun
          · simp only [Option.some.injEq] at hrun; subst hrun
            exact ⟨hdf, u', rfl, v, hv, v, β2, rfl, hset, hE1.trans hE2, hback⟩
          · simp only [Option.some.injEq] at hrun; subst hrun
            exact ⟨hdf, u', rfl, v, hv, v, β2, rfl, hset, hE1.trans hE2, hback⟩
          · cases hrun
        simp only [wpOpsSIn, h0]
        refine ⟨fun f _ => by rw [hF.fn]; trivial, ?_⟩
        rw [if_pos (by simp [Region.wanted, hg])]
        have hx : (execOp a0.eval o0).run P W = .ok .recover W := by
          obtain ⟨dst, op, type, pos, after, guard⟩ := o0
          simp only at ho
          subst ho
          rfl
        rw [hx]
        simp only
        rw [hdst]
        cases hrd : recoverD (c₀ :: cs) with
        | some x =>
          rw [hrd] at hu'
          obtain ⟨v, cs'⟩ := x
          obtain ⟨rfl, rfl⟩ := hu'
          exact fin
        | none =>
          rw [hrd] at hu'
          obtain ⟨e1, e2⟩ := hu'
          rw [← e1, e2] at fin
          exact fin
      · cases hrun
    · cases hrun
end Go.Sx
