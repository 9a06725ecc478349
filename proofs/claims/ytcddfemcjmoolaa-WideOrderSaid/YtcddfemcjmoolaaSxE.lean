/-
  A symbolic executor for the model's code, fifth part: one operation is right.
-/
import Derived.Test.YtcddfemcjmoolaaSxD
namespace Go.Sx
open Go Go.RowKit

/-- A fence that lets everything in. -/
structure Loose (F : Fence) : Prop where
  fn : F.fn = fun _ => True
  depth : F.depth = none
  alive : F.alive = false

theorem Loose.wide : Loose Fence.wide := ⟨rfl, rfl, rfl⟩
theorem Loose.inRound {F : Fence} (h : Loose F) (l : Nat) : Loose (F.inRound l) := ⟨h.fn, h.depth, h.alive⟩

section
variable {P : Program} {F : Fence} {n : Nat} {o : Oper} {a : Act} {W W' : World} {K : Act → World → Prop} {Q : Exit → Act → World → Prop}

theorem wpIn_value {v : Value} (hF : Loose F) (hnd : ∀ c, o.op ≠ .defer c) (hv : (execOp a.eval o).run P W = .ok (.value v) W') (hK : K (a.put o.dst v) W') : o.wpIn F n P a W K Q := by
  refine ⟨fun f _ => by rw [hF.fn]; trivial, ?_⟩
  rw [Oper.semAt_eq _ _ _ hnd, hv]
  exact hK

theorem wpIn_skipv (hF : Loose F) (hnd : ∀ c, o.op ≠ .defer c) (hv : (execOp a.eval o).run P W = .ok .skip W') (hK : K (a.put o.dst undef) W') : o.wpIn F n P a W K Q := by
  refine ⟨fun f _ => by rw [hF.fn]; trivial, ?_⟩
  rw [Oper.semAt_eq _ _ _ hnd, hv]
  exact hK
end

section
variable {P : Program} {β : Ren} {w0 : World} {B N : Nat} {O : Nat → Prop} {m : Nat} {S : St} {a : Act} {W : World} {cts : List (Ctr P)}

theorem rdP_run {α : Type} {q : Option α} {x : α} {rd : List Loc} (h : (rdP q).run S = some (x, rd)) : q = some x := by
  cases q with
  | none => cases h
  | some y => simp only [rdP, Rd.run, Option.some.injEq, Prod.mk.injEq] at h; rw [h.1]

theorem ret_run {α : Type} {y x : α} {rd : List Loc} (h : (Rd.ret y).run S = some (x, rd)) : y = x := by
  simp only [Rd.run, Option.some.injEq, Prod.mk.injEq] at h; exact h.1

theorem denCt_ctOf {y : SV} {v : Value} (h : den β y = some v) : denCt β (ctOf y) = some v.cells := by
  cases y with
  | v x => simp only [den, Option.some.injEq] at h; subst h; rfl
  | ptr b o =>
    simp only [ctOf, denCt, dens, h]
    simp only [den, adr, Option.map_eq_some_iff] at h
    obtain ⟨k, _, rfl⟩ := h
    rfl
  | fn f c =>
    simp only [ctOf, denCt, dens, h]
    simp only [den] at h
    split at h
    · simp only [Option.some.injEq] at h; subst h; rfl
    · cases h
  | yld l =>
    simp only [ctOf, denCt, dens, h]
    simp only [den, Option.map_eq_some_iff] at h
    obtain ⟨k, _, rfl⟩ := h
    rfl
  | sl b o n c =>
    simp only [ctOf, denCt, dens, h]
    simp only [den, Option.map_eq_some_iff] at h
    obtain ⟨k, _, rfl⟩ := h
    rfl

theorem fallback_run {o : Oper} {res : Res} {rd : List Loc} (h : R β w0 B N O m S a W) (hns : ∀ cs b, o.op ≠ .select cs b) (hr : (fallback P o).run S = some (res, rd)) :
    ∃ v, (execOp a.eval o).run P W = .ok (.value v) W ∧ res = ⟨.v v, [], []⟩ := by
  unfold fallback at hr
  obtain ⟨vs, rd1, rd2, h1, h2⟩ := Rd.run_bind hr
  have hvs := rdVs_run h h1
  split at h2
  · rename_i v hv
    have := ret_run h2
    refine ⟨v, ?_, this.symm⟩
    have hc : execOp a.eval o = execOp (rho o.op.operands.toList vs) o := execOp_congr o hns (fun x hx => by
      rw [hvs, rho_eval a _ x (by simpa using hx)])
    rw [hc]
    exact pureRun_run hv W
  · cases h2

theorem placeAt_run {ix : Value} {len : Nat} {dec : Dec} {j : Nat} {ps : List Prop} (h : placeAt ix len dec = some (j, ps)) (hp : ∀ p ∈ ps, p) :
    ∃ k, ix = .int k (j : Int) ∧ j < len := by
  unfold placeAt at h
  split at h
  · rename_i k i
    split at h
    · rename_i j'
      cases hb : Nat.blt j' len with
      | false => rw [hb] at h; cases h
      | true =>
        rw [hb] at h
        simp only [cond_true, Option.some.injEq, Prod.mk.injEq] at h
        obtain ⟨rfl, rfl⟩ := h
        have : i = (j' : Int) := hp _ (by simp)
        subst this
        exact ⟨k, rfl, by simpa [Nat.blt_eq] using hb⟩
    · split at h
      · rename_i j'
        cases hb : Nat.blt j' len with
        | false => rw [hb] at h; cases h
        | true =>
          rw [hb] at h
          simp only [cond_true, Option.some.injEq, Prod.mk.injEq] at h
          obtain ⟨rfl, rfl⟩ := h
          exact ⟨k, rfl, by simpa [Nat.blt_eq] using hb⟩
      · cases h
  · cases h

theorem plainV_run {op : BinOp} {t : TypeId} {x y : Operand} {u v : Value} {res : Res} (h : plainV P op t x y u v = some res) :
    ∃ z, res.x = .v z ∧ res.wr = [] ∧ ∀ W, ((do eqGuard op t x y u v; binOp op t u v : Sem Value)).run P W = .ok z W := by
  unfold plainV at h
  split at h
  · rename_i z hz
    simp only [Option.some.injEq] at h
    subst h
    exact ⟨z, rfl, rfl, fun W => pureRun_run hz W⟩
  · cases h

theorem eqV_run {op : BinOp} {t : TypeId} {x y : Operand} {u v : Value} {res : Res} (h : eqV P op t x y u v = some res) :
    ∃ z, res.x = .v z ∧ res.wr = [] ∧ ∀ W, ((do eqGuard op t x y u v; binOp op t u v : Sem Value)).run P W = .ok z W := by
  unfold eqV at h
  split at h
  · rename_i cs r hg he
    have hb : ∀ W, (Op.equal t (.agg cs) v).run P W = .ok r W := fun W => eqv_run he
    split at h
    · simp only [Option.some.injEq] at h; subst h
      refine ⟨.bool r, rfl, rfl, fun W => ?_⟩
      have hbin : binOp .eql t (.agg cs) v = (do pure (.bool (← Op.equal t (.agg cs) v))) := by cases v <;> rfl
      simp only [Sem.run_bind, pureRun_run hg W, Result.andThen_ok, hbin, hb W, Sem.run_pure]
    · simp only [Option.some.injEq] at h; subst h
      refine ⟨.bool (!r), rfl, rfl, fun W => ?_⟩
      have hbin : binOp .neq t (.agg cs) v = (do pure (.bool (!(← Op.equal t (.agg cs) v)))) := by cases v <;> rfl
      simp only [Sem.run_bind, pureRun_run hg W, Result.andThen_ok, hbin, hb W, Sem.run_pure]
    · cases h
  · cases h

theorem shV_run {op : BinOp} {t : TypeId} {x y : Operand} {u v : Value} {res : Res} (h : shV op u v = some res) (hp : ∀ p ∈ res.ps, p) :
    ∃ z, res.x = .v z ∧ res.wr = [] ∧ ∀ W, ((do eqGuard op t x y u v; binOp op t u v : Sem Value)).run P W = .ok z W := by
  unfold shV at h
  split at h
  · rename_i k m k' c
    split at h
    · simp only [Option.some.injEq] at h; subst h
      have h0 : 0 ≤ c := hp _ (by simp)
      refine ⟨_, rfl, rfl, fun W => ?_⟩
      simp [eqGuard, binOp, Op.shift, Int.not_lt.2 h0]
    · simp only [Option.some.injEq] at h; subst h
      have h0 : 0 ≤ c := hp _ (by simp)
      refine ⟨_, rfl, rfl, fun W => ?_⟩
      simp [eqGuard, binOp, Op.shift, Int.not_lt.2 h0]
    · cases h
  · cases h

theorem divV_run {op : BinOp} {t : TypeId} {x y : Operand} {u v : Value} {res : Res} (h : divV op u v = some res) (hp : ∀ p ∈ res.ps, p) :
    ∃ z, res.x = .v z ∧ res.wr = [] ∧ ∀ W, ((do eqGuard op t x y u v; binOp op t u v : Sem Value)).run P W = .ok z W := by
  unfold divV at h
  split at h
  · rename_i k m k' c
    cases hk : decide (k = k') with
    | false => rw [hk] at h; cases h
    | true =>
      rw [hk] at h
      have : k = k' := of_decide_eq_true hk
      subst this
      simp only [cond_true] at h
      split at h
      · simp only [Option.some.injEq] at h; subst h
        have h0 : c ≠ 0 := hp _ (by simp)
        refine ⟨_, rfl, rfl, fun W => ?_⟩
        simp [eqGuard, binOp, Op.intDiv, h0]
      · simp only [Option.some.injEq] at h; subst h
        have h0 : c ≠ 0 := hp _ (by simp)
        refine ⟨_, rfl, rfl, fun W => ?_⟩
        simp [eqGuard, binOp, Op.intDiv, h0]
      · cases h
  · cases h

theorem binV_run {op : BinOp} {t : TypeId} {x y : Operand} {u v : Value} {res : Res} (h : binV P op t x y u v = some res) (hp : ∀ p ∈ res.ps, p) :
    ∃ z, res.x = .v z ∧ res.wr = [] ∧ ∀ W, ((do eqGuard op t x y u v; binOp op t u v : Sem Value)).run P W = .ok z W := by
  unfold binV at h
  cases op <;> dsimp only at h
  case eql => cases hb : isAddrFree u <;> rw [hb] at h <;> first | exact plainV_run h | exact eqV_run h
  case neq => cases hb : isAddrFree u <;> rw [hb] at h <;> first | exact plainV_run h | exact eqV_run h
  case shl => cases hb : isConst y <;> rw [hb] at h <;> first | exact plainV_run h | exact shV_run h hp
  case shr => cases hb : isConst y <;> rw [hb] at h <;> first | exact plainV_run h | exact shV_run h hp
  case quo => cases hb : isConst y <;> rw [hb] at h <;> first | exact plainV_run h | exact divV_run h hp
  case rem => cases hb : isConst y <;> rw [hb] at h <;> first | exact plainV_run h | exact divV_run h hp
  all_goals exact plainV_run h

theorem rdOpt_run {x : Option Operand} {v : Option Value} {rd : List Loc} (h : R β w0 B N O m S a W) (hr : (rdOpt x).run S = some (v, rd)) : v = x.map a.eval := by
  cases x with
  | none => exact (ret_run hr).symm
  | some y =>
    obtain ⟨z, rd1, rd2, h1, h2⟩ := Rd.run_bind hr
    rw [← ret_run h2, Option.map_some, rdV_run h h1]

theorem rdParts_run : ∀ {xs : List (Nat × Operand)} {l : List (Nat × Value)} {rd : List Loc}, R β w0 B N O m S a W → (rdParts xs).run S = some (l, rd) → l = xs.map fun (i, x) => (i, a.eval x)
  | [], l, rd, _, hr => by rw [← ret_run hr]; rfl
  | (i, x) :: r, l, rd, h, hr => by
    obtain ⟨v, rd1, rd2, h1, h2⟩ := Rd.run_bind hr
    obtain ⟨l', rd3, rd4, h3, h4⟩ := Rd.run_bind h2
    rw [← ret_run h4, List.map_cons, ← rdV_run h h1, rdParts_run h h3]

theorem run_buildSlice {t : TypeId} {len : Nat} {parts : Array (Nat × Value)} {e : TypeId} {cells : Array Value} (h : pureRun P (bsCells t len parts) = some (e, cells)) (W : World) :
    (Instr.buildSlice t len parts).run P W = .ok (.slice (some ⟨W.heap.size, 0, none⟩) len len) (W.alloc (.cells cells e)) := by
  have h1 := pureRun_run h W
  unfold bsCells at h1
  unfold Instr.buildSlice
  simp only [Sem.run_bind] at h1 ⊢
  generalize (underlying t).run P W = q at h1 ⊢
  cases q with
  | halt x w => simp [Result.andThen] at h1
  | ok d w =>
    simp only [Result.andThen_ok] at h1 ⊢
    cases d <;> try (cases h1; done)
    rename_i elem
    simp only [Sem.run_bind] at h1 ⊢
    generalize (sizeOf elem).run P w = q at h1 ⊢
    cases q with
    | halt x w => simp [Result.andThen] at h1
    | ok size w =>
      simp only [Result.andThen_ok] at h1 ⊢
      by_cases hle : len * size > 2 ^ 24
      · rw [if_pos hle] at h1
        cases h1
      · rw [if_neg hle] at h1 ⊢
        by_cases hz : len * size = 0
        · rw [if_pos hz] at h1 ⊢
          simp only [Sem.run_bind, Sem.run_pure, Result.andThen_ok] at h1 ⊢
          generalize Instr.fill _ _ _ = q at h1 ⊢
          cases q with
          | none => cases h1
          | some cs =>
            simp only [Sem.run_pure, Result.ok.injEq, Prod.mk.injEq] at h1
            obtain ⟨⟨rfl, rfl⟩, rfl⟩ := h1
            rfl
        · rw [if_neg hz] at h1 ⊢
          simp only [Sem.run_bind] at h1 ⊢
          generalize (zeroValue elem).run P w = q at h1 ⊢
          cases q with
          | halt x w => cases h1
          | ok zero w =>
            simp only [Result.andThen_ok, Sem.run_pure] at h1 ⊢
            generalize Instr.fill _ _ _ = q at h1 ⊢
            cases q with
            | none => cases h1
            | some cs =>
              simp only [Sem.run_pure, Result.ok.injEq, Prod.mk.injEq] at h1
              obtain ⟨⟨rfl, rfl⟩, rfl⟩ := h1
              rfl

theorem vop_wp {F : Fence} {n : Nat} {o : Oper} {nm : Nat} {dec : Dec} {res : Res} {rd : List Loc} {K : Act → World → Prop} {Q : Exit → Act → World → Prop} (hF : Loose F)
    (h : R β w0 B N O m S a W) (hr : (vop P cts o nm dec).run S = some (res, rd)) (hp : ∀ p ∈ res.ps, p)
    (hK : ∀ β' v W', Ext β β' → R β' w0 B N O m (S.puts res.wr) a W' → den β' res.x = some v → K (a.put o.dst v) W') : o.wpIn F n P a W K Q := by
  obtain ⟨dst, op, type, pos, after, guard⟩ := o
  have fb : (∀ cs b, op ≠ .select cs b) → (∀ c, op ≠ .defer c) → ∀ {rd' : List Loc}, (fallback P ⟨dst, op, type, pos, after, guard⟩).run S = some (res, rd') → Oper.wpIn F n P ⟨dst, op, type, pos, after, guard⟩ a W K Q := by
    intro hns hnd rd' hr
    obtain ⟨v, hv, rfl⟩ := fallback_run h hns hr
    exact wpIn_value hF hnd hv (hK β v W (.refl _) h rfl)
  cases op
  case move x =>
    obtain ⟨y, rd1, rd2, h1, h2⟩ := Rd.run_bind hr
    obtain rfl := ret_run h2
    exact wpIn_value hF (by simp) rfl (hK β _ W (.refl _) h (rdX_run h h1))
  case assign x =>
    obtain ⟨y, rd1, rd2, h1, h2⟩ := Rd.run_bind hr
    obtain rfl := ret_run h2
    exact wpIn_value hF (by simp) rfl (hK β _ W (.refl _) h (rdX_run h h1))
  case pick c x y =>
    obtain ⟨z, rd1, rd2, h1, h2⟩ := Rd.run_bind hr
    have hz := rdV_run h h1
    split at h2
    · obtain ⟨z, rd3, rd4, h3, h4⟩ := Rd.run_bind h2
      obtain rfl := ret_run h4
      refine wpIn_value hF (by simp) (v := a.eval x) (W' := W) ?_ (hK β _ W (.refl _) h (rdX_run h h3))
      simp [execOp, hz, asBool]
    · obtain ⟨z, rd3, rd4, h3, h4⟩ := Rd.run_bind h2
      obtain rfl := ret_run h4
      refine wpIn_value hF (by simp) (v := a.eval y) (W' := W) ?_ (hK β _ W (.refl _) h (rdX_run h h3))
      simp [execOp, hz, asBool]
    · cases h2
  case alloc e =>
    simp only [vop] at hr
    split at hr
    · rename_i i hi
      split at hr
      · rename_i z hz
        cases hb : Nat.blt nm gbase with
        | false => rw [hb] at hr; cases hr
        | true =>
          rw [hb] at hr
          simp only [cond_true, Rd.run, St.get] at hr
          cases hl : memN nm S.us with
          | true => simp [hl, Rd.run] at hr
          | false =>
            simp only [hl, cond_false, Rd.run, Option.some.injEq, Prod.mk.injEq] at hr
            obtain ⟨rfl, _⟩ := hr
            obtain ⟨β', hm, hnm, hR⟩ := h.new (c := .whole z) (cells := z.cells) (ty := e) rfl hl (by simpa [Nat.blt_eq] using hb)
            refine wpIn_value hF (by simp) (v := .pointer (some ⟨W.heap.size, 0, none⟩)) (W' := W.alloc (.cells z.cells e)) ?_ (hK β' _ _ hm hR (by simp [den, adr, hnm]))
            simp only [execOp, Instr.alloc, zeroValue, typeInfo, Sem.run_bind, run_program, Result.andThen_ok, hi, Sem.run_pure, hz]
            rfl
      · cases hr
    · cases hr
  case box e x =>
    obtain ⟨y, rd1, rd2, h1, h2⟩ := Rd.run_bind hr
    have hy := rdX_run h h1
    cases hb : Nat.blt nm gbase with
    | false => rw [hb] at h2; cases h2
    | true =>
      rw [hb] at h2
      simp only [cond_true, Rd.run, St.get] at h2
      cases hl : memN nm S.us with
      | true => simp [hl, Rd.run] at h2
      | false =>
        simp only [hl, cond_false, Rd.run, Option.some.injEq, Prod.mk.injEq] at h2
        obtain ⟨rfl, _⟩ := h2
        obtain ⟨β', hm, hnm, hR⟩ := h.new (c := ctOf y) (ty := e) (denCt_ctOf hy) hl (by simpa [Nat.blt_eq] using hb)
        refine wpIn_value hF (by simp) (v := .pointer (some ⟨W.heap.size, 0, none⟩)) (W' := W.alloc (.cells (a.eval x).cells e)) ?_ (hK β' _ _ hm hR (by simp [den, adr, hnm]))
        rfl
  case load t x =>
    obtain ⟨y, rd1, rd2, h1, h2⟩ := Rd.run_bind hr
    have hy := rdX_run h h1
    split at h2
    · rename_i b off
      obtain ⟨⟨c, ty⟩, rd3, rd4, h3, h4⟩ := Rd.run_bind h2
      obtain ⟨z, rd5, rd6, h5, h6⟩ := Rd.run_bind h4
      obtain rfl := ret_run h6
      obtain ⟨k, cells, hk, hc, hh⟩ := h.bs _ _ _ (rdB_run h3)
      obtain ⟨v, hv, hl⟩ := loadC_run hc hh (rdP_run h5)
      refine wpIn_value hF (by simp) (v := v) (W' := W) ?_ (hK β v W (.refl _) h hv)
      simp only [den, adr, hk, Option.map_some, Option.some.injEq] at hy
      simp [execOp, ← hy, Instr.loadAt, Instr.sureAddr, hl]
    · cases h2
  case store t x z =>
    obtain ⟨y, rd1, rd2, h1, h2⟩ := Rd.run_bind hr
    have hy := rdX_run h h1
    split at h2
    · rename_i b off
      obtain ⟨u, rd3, rd4, h3, h4⟩ := Rd.run_bind h2
      obtain ⟨⟨c, ty⟩, rd5, rd6, h5, h6⟩ := Rd.run_bind h4
      obtain ⟨c', rd7, rd8, h7, h8⟩ := Rd.run_bind h6
      obtain rfl := ret_run h8
      obtain ⟨k, cells, hk, hc, hh⟩ := h.bs _ _ _ (rdB_run h5)
      obtain ⟨cells', hc', hs⟩ := storeC_run hc (rdX_run h h3) hh (rdP_run h7)
      refine wpIn_skipv hF (by simp) (W' := W.setRow k cells') ?_ (hK β undef _ (.refl _) (h.turn hk hh hc') rfl)
      simp only [den, adr, hk, Option.map_some, Option.some.injEq] at hy
      simp [execOp, ← hy, Instr.storeAt, Instr.sureAddr, hs]
    · cases h2
  case indexAddr t x ix =>
    obtain ⟨y, rd1, rd2, h1, h2⟩ := Rd.run_bind hr
    have hy := rdX_run h h1
    split at h2
    · rename_i b off
      obtain ⟨i, rd3, rd4, h3, h4⟩ := Rd.run_bind h2
      have hi := rdV_run h h3
      split at h4
      · rename_i len e hu
        split at h4
        · rename_i inf hinf
          obtain ⟨⟨j, ps⟩, rd5, rd6, h5, h6⟩ := Rd.run_bind h4
          obtain rfl := ret_run h6
          obtain ⟨k, rfl, hj⟩ := placeAt_run (rdP_run h5) hp
          simp only [den, adr, Option.map_eq_some_iff] at hy
          obtain ⟨kb, hkb, hy⟩ := hy
          refine wpIn_value hF (by simp) (v := .pointer (some ⟨kb, off + j * inf.size, none⟩)) (W' := W) ?_ (hK β _ W (.refl _) h (by simp [den, adr, hkb]))
          have hj' : (0 : Int) ≤ j ∧ (j : Int) < len := ⟨by omega, by omega⟩
          simp only [execOp, hi, ← hy, Instr.indexAt, asIntOf, Sem.run_bind, Sem.run_pure, Result.andThen_ok, run_underlying hu, Instr.sureAddr, hj', and_self, if_true, sizeOf, typeInfo, run_program, hinf, Int.toNat_natCast, addr_add]
        · cases h4
      · cases h4
    · rename_i b off len cap
      obtain ⟨i, rd3, rd4, h3, h4⟩ := Rd.run_bind h2
      have hi := rdV_run h h3
      split at h4
      · rename_i e hu
        split at h4
        · rename_i inf hinf
          obtain ⟨⟨j, ps⟩, rd5, rd6, h5, h6⟩ := Rd.run_bind h4
          obtain rfl := ret_run h6
          obtain ⟨k, rfl, hj⟩ := placeAt_run (rdP_run h5) hp
          simp only [den, Option.map_eq_some_iff] at hy
          obtain ⟨kb, hkb, hy⟩ := hy
          refine wpIn_value hF (by simp) (v := .pointer (some ⟨kb, off + j * inf.size, none⟩)) (W' := W) ?_ (hK β _ W (.refl _) h (by simp [den, adr, hkb]))
          have hj' : (0 : Int) ≤ j ∧ (j : Int) < len := ⟨by omega, by omega⟩
          simp only [execOp, hi, ← hy, Instr.indexAt, asIntOf, Sem.run_bind, Sem.run_pure, Result.andThen_ok, run_underlying hu, hj', and_self, if_true, sizeOf, typeInfo, run_program, hinf, Int.toNat_natCast, addr_add]
        · cases h4
      · cases h4
    · cases h2
  case slice t x lo hi mx =>
    obtain ⟨y, rd1, rd2, h1, h2⟩ := Rd.run_bind hr
    have hy := rdX_run h h1
    split at h2
    · rename_i b off
      obtain ⟨vl, rd3, rd4, h3, h4⟩ := Rd.run_bind h2
      obtain ⟨vh, rd5, rd6, h5, h6⟩ := Rd.run_bind h4
      obtain ⟨vm, rd7, rd8, h7, h8⟩ := Rd.run_bind h6
      split at h8
      · rename_i nn e hu
        split at h8
        · rename_i inf hinf
          obtain ⟨⟨l, hh, mm⟩, rd9, rd10, h9, h10⟩ := Rd.run_bind h8
          have hb := pureRun_run (rdP_run h9) W
          dsimp only at h10
          cases hml : Nat.beq mm l with
          | true => rw [hml] at h10; cases h10
          | false =>
            rw [hml] at h10
            obtain rfl := ret_run h10
            have hne : mm ≠ l := Nat.ne_of_beq_eq_false hml
            simp only [den, adr, Option.map_eq_some_iff] at hy
            obtain ⟨kb, hkb, hy⟩ := hy
            refine wpIn_value hF (by simp) (v := .slice (some ⟨kb, off + l * inf.size, none⟩) (hh - l) (mm - l)) (W' := W) ?_ (hK β _ W (.refl _) h (by simp [den, hkb]))
            rw [rdOpt_run h h3, rdOpt_run h h5, rdOpt_run h h7] at hb
            simp only [execOp, ← hy, Instr.sliceAt, Sem.run_bind, run_underlying hu, Result.andThen_ok, Instr.sureAddr, Sem.run_pure, hb, sizeOf, typeInfo, run_program, hinf, if_neg hne, addr_add]
        · cases h8
      · cases h8
    · rename_i b off len cap
      obtain ⟨vl, rd3, rd4, h3, h4⟩ := Rd.run_bind h2
      obtain ⟨vh, rd5, rd6, h5, h6⟩ := Rd.run_bind h4
      obtain ⟨vm, rd7, rd8, h7, h8⟩ := Rd.run_bind h6
      split at h8
      · rename_i e hu
        split at h8
        · rename_i inf hinf
          obtain ⟨⟨l, hh, mm⟩, rd9, rd10, h9, h10⟩ := Rd.run_bind h8
          have hb := pureRun_run (rdP_run h9) W
          obtain rfl := ret_run h10
          simp only [den, Option.map_eq_some_iff] at hy
          obtain ⟨kb, hkb, hy⟩ := hy
          refine wpIn_value hF (by simp) (v := .slice (some ⟨kb, bif Nat.beq mm l then off else off + l * inf.size, none⟩) (hh - l) (mm - l)) (W' := W) ?_ (hK β _ W (.refl _) h (by simp [den, hkb]))
          rw [rdOpt_run h h3, rdOpt_run h h5, rdOpt_run h h7] at hb
          simp only [execOp, ← hy, Instr.sliceAt, Instr.slice, Sem.run_bind, run_underlying hu, Result.andThen_ok, Sem.run_pure, hb, sizeOf, typeInfo, run_program, hinf]
          cases hml : Nat.beq mm l with
          | true => simp [Nat.eq_of_beq_eq_true hml]
          | false => simp [Nat.ne_of_beq_eq_false hml, addr_add]
        · cases h8
      · cases h8
    · exact fb (by simp) (by simp) h2
  case sliceToArrayPointer t x =>
    obtain ⟨y, rd1, rd2, h1, h2⟩ := Rd.run_bind hr
    have hy := rdX_run h h1
    split at h2
    · rename_i b off len cap
      split at h2
      · rename_i nn e hu
        cases hle : Nat.ble nn len with
        | false => rw [hle] at h2; cases h2
        | true =>
          rw [hle] at h2
          obtain rfl := ret_run h2
          simp only [den, Option.map_eq_some_iff] at hy
          obtain ⟨kb, hkb, hy⟩ := hy
          refine wpIn_value hF (by simp) (v := .pointer (some ⟨kb, off, none⟩)) (W' := W) ?_ (hK β _ W (.refl _) h (by simp [den, adr, hkb]))
          have hle' : ¬ len < nn := by have := Nat.le_of_ble_eq_true hle; omega
          simp only [execOp, ← hy, Instr.arrayAt, Sem.run_bind, run_underlying hu, Result.andThen_ok, if_neg hle', Sem.run_pure]
      · cases h2
    · cases h2
  case buildSlice t len parts =>
    obtain ⟨ps, rd1, rd2, h1, h2⟩ := Rd.run_bind hr
    have hps := rdParts_run h h1
    obtain ⟨⟨e, cells⟩, rd3, rd4, h3, h4⟩ := Rd.run_bind h2
    have hc := rdP_run h3
    dsimp only at h4
    cases hb : Nat.blt nm gbase with
    | false => rw [hb] at h4; cases h4
    | true =>
      rw [hb] at h4
      simp only [cond_true, Rd.run, St.get] at h4
      cases hl : memN nm S.us with
      | true => simp [hl, Rd.run] at h4
      | false =>
        simp only [hl, cond_false, Rd.run, Option.some.injEq, Prod.mk.injEq] at h4
        obtain ⟨rfl, _⟩ := h4
        obtain ⟨β', hm, hnm, hR⟩ := h.new (c := .parts (cells.toList.map .v)) (cells := cells) (ty := e) (by simp [denCt, dens_map_v]) hl (by simpa [Nat.blt_eq] using hb)
        refine wpIn_value hF (by simp) (v := .slice (some ⟨W.heap.size, 0, none⟩) len len) (W' := W.alloc (.cells cells e)) ?_ (hK β' _ _ hm hR (by simp [den, hnm]))
        have hpp : (parts.map fun (i, x) => (i, a.eval x)) = ps.toArray := by rw [hps]; cases parts; simp
        simp only [execOp, hpp, Sem.run_bind, run_buildSlice hc W, Result.andThen_ok, Sem.run_pure]
  case fieldAddr s x f =>
    obtain ⟨y, rd1, rd2, h1, h2⟩ := Rd.run_bind hr
    have hy := rdX_run h h1
    split at h2
    · rename_i b off
      split at h2
      · rename_i fs hu
        split at h2
        · rename_i fd hfd
          split at h2
          · rename_i inf hinf
            cases hb : Nat.beq inf.size 0 with
            | true => rw [hb] at h2; cases h2
            | false =>
              rw [hb] at h2
              obtain rfl := ret_run h2
              simp only [den, adr, Option.map_eq_some_iff] at hy
              obtain ⟨kb, hkb, hy⟩ := hy
              refine wpIn_value hF (by simp) (v := .pointer (some ⟨kb, off + fd.offset, none⟩)) (W' := W) ?_ (hK β _ W (.refl _) h (by simp [den, adr, hkb]))
              have hne : inf.size ≠ 0 := Nat.ne_of_beq_eq_false hb
              simp only [execOp, ← hy, Instr.fieldAt, Sem.run_bind, run_underlying hu, Result.andThen_ok, hfd, Instr.sureAddr, Sem.run_pure, fieldPlace, sizeOf, typeInfo, run_program, hinf, hne, if_false, addr_add]
          · cases h2
        · cases h2
      · cases h2
    · cases h2
  case makeFunc fn first caps =>
    cases fn with
    | func f =>
      simp only [vop] at hr
      split at hr
      · rename_i hfirst
        obtain ⟨l, rd1, rd2, h1, h2⟩ := Rd.run_bind hr
        obtain rfl := ret_run h2
        have hc := capsOf_run h h1
        refine wpIn_value hF (by simp) (v := .func (.func f) (first.map a.eval) (caps.map a.eval)) (W' := W) rfl (hK β _ W (.refl _) h ?_)
        have hf : first = #[] := by cases first; simpa using hfirst
        simp only [den, hc, hf, List.map_toArray]
        congr 2
        cases caps
        simp
      · cases hr
    | method _ => simp only [vop] at hr; exact fb (by simp) (by simp) hr
    | methodOf _ _ => simp only [vop] at hr; exact fb (by simp) (by simp) hr
    | via _ _ _ _ => simp only [vop] at hr; exact fb (by simp) (by simp) hr
    | yield _ => simp only [vop] at hr; exact fb (by simp) (by simp) hr
  case binOp bop t x y yt =>
    obtain ⟨u, rd1, rd2, h1, h2⟩ := Rd.run_bind hr
    obtain ⟨v, rd3, rd4, h3, h4⟩ := Rd.run_bind h2
    obtain ⟨z, hz, hw, hrun⟩ := binV_run (rdP_run h4) hp
    have hu := rdV_run h h1
    have hv := rdV_run h h3
    refine wpIn_value hF (by simp) (v := z) (W' := W) ?_ (hK β z W (.refl _) (by rw [hw]; exact h) (by rw [hz]; rfl))
    have := hrun W
    simp only [execOp, hu, hv, Sem.run_bind, Sem.run_pure] at this ⊢
    rw [this]
    rfl
  case call c =>
    obtain ⟨callee, args, argTypes⟩ := c
    cases callee with
    | builtin b =>
      have hr' : (match b, args.toList, argTypes.toList with
        | .len, [x], [t] => bif isSliceT P t then (rdX x).bind fun
            | .sl _ _ n _ => .ret (Res.mk (.v (.int .i64 n)) [] [])
            | _ => fallback P ⟨dst, .call ⟨.builtin b, args, argTypes⟩, type, pos, after, guard⟩
          else fallback P ⟨dst, .call ⟨.builtin b, args, argTypes⟩, type, pos, after, guard⟩
        | _, _, _ => fallback P ⟨dst, .call ⟨.builtin b, args, argTypes⟩, type, pos, after, guard⟩).run S = some (res, rd) := hr
      split at hr'
      · rename_i x t hargs htys
        cases hs : isSliceT P t with
        | false => rw [hs] at hr'; exact fb (by simp) (by simp) hr'
        | true =>
          rw [hs] at hr'
          obtain ⟨y, rd1, rd2, h1, h2⟩ := Rd.run_bind hr'
          have hy := rdX_run h h1
          split at h2
          · rename_i b off nn cap
            obtain rfl := ret_run h2
            simp only [den, Option.map_eq_some_iff] at hy
            obtain ⟨kb, hkb, hy⟩ := hy
            refine wpIn_value hF (by simp) (v := .int .i64 nn) (W' := W) ?_ (hK β _ W (.refl _) h rfl)
            have ha : args = #[x] := by cases args; simpa using hargs
            have ht : argTypes = #[t] := by cases argTypes; simpa using htys
            subst ha
            subst ht
            unfold isSliceT at hs
            split at hs
            · rename_i e hu
              simp only [execOp, resolve, Sem.run_bind, Sem.run_pure, Result.andThen_ok, invoke, builtin, Builtin.len_, List.map_toArray, List.map_cons, List.map_nil, ← hy]
              simp [run_underlying hu, goInt]
            · cases hs
          · exact fb (by simp) (by simp) h2
      · exact fb (by simp) (by simp) hr'
    | invoke _ _ => cases hr
    | value f =>
      obtain ⟨y, rd1, rd2, h1, h2⟩ := Rd.run_bind hr
      have hy := rdX_run h h1
      split at h2
      · rename_i g
        obtain ⟨vs, rd3, rd4, h3, h4⟩ := Rd.run_bind h2
        obtain ⟨ct, rd5, rd6, h5, h6⟩ := Rd.run_bind h4
        obtain rfl := ret_run h6
        have hf := findC_f (rdP_run h5)
        have hvs := rdVs_run h h3
        have hs := ct.sound vs (hp _ (by simp)) F n ⟨dst, .call ⟨.value f, args, argTypes⟩, type, pos, after, guard⟩ a W K Q hF.fn hF.depth hF.alive (fun W' hb => hK β _ W' (.refl _) (h.below hb) rfl)
        refine ⟨fun f _ => by rw [hF.fn]; trivial, ?_⟩
        rw [Oper.semAt_eq _ _ _ (by simp)]
        have hev : a.eval f = .func (.func g) #[] #[] := by simpa [den, adrs] using hy.symm
        have hargs : (args.map a.eval) = vs.toArray := by rw [hvs]; cases args; simp
        have he : execOp a.eval ⟨dst, .call ⟨.value f, args, argTypes⟩, type, pos, after, guard⟩ = callFunc g vs.toArray := by
          simp only [execOp, resolve, hev, Deferred.ofValue, hargs]
          simp only [bind, Sem.bind, pure, invoke, Array.empty_append, Array.append_empty]
        rw [he, ← hf]
        exact hs
      · cases h2
  case select _ _ => cases hr
  case defer c =>
    have hr' : (fallback P ⟨dst, .defer c, type, pos, after, guard⟩).run S = some (res, rd) := hr
    obtain ⟨v, hv, rfl⟩ := fallback_run h (by simp) hr'
    simp only [execOp, Sem.run_bind] at hv
    generalize (resolve a.eval c type).run P W = q at hv
    cases q with
    | ok d w => simp [Result.andThen] at hv
    | halt x w => simp [Result.andThen] at hv
  all_goals exact fb (by simp) (by simp) hr
end
end Go.Sx
