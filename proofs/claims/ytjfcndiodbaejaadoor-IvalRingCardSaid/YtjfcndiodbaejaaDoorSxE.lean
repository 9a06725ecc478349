/-
  A symbolic executor for the model's code, fifth part: one operation is right.
-/
import Derived.Test.YtjfcndiodbaejaaDoorSxD
import Derived.Maps.AppendAt
namespace Go.Sx
open Go Go.RowKit

/-- A fence that lets everything in. -/
structure Loose (F : Fence) : Prop where
  fn : F.fn = fun _ => True
  depth : F.depth = none
  alive : F.alive = false

theorem Loose.wide : Loose Fence.wide := ⟨rfl, rfl, rfl⟩
theorem Loose.inRound {F : Fence} (h : Loose F) (l : Nat) : Loose (F.inRound l) := ⟨h.fn, h.depth, h.alive⟩

section
variable {P : Program} {F : Fence} {n : Nat} {o : Oper} {a : Act} {W W' : World} {K : Act → World → Prop} {Q : Exit → Act → World → Prop}

theorem wpIn_value {v : Value} (hF : Loose F) (hnd : ∀ c, o.op ≠ .defer c) (hv : (execOp a.eval o).run P W = .ok (.value v) W') (hK : K (a.put o.dst v) W') : o.wpIn F n P a W K Q := by
  refine ⟨fun f _ => by rw [hF.fn]; trivial, ?_⟩
  rw [Oper.semAt_eq _ _ _ hnd, hv]
  exact hK

theorem wpIn_skipv (hF : Loose F) (hnd : ∀ c, o.op ≠ .defer c) (hv : (execOp a.eval o).run P W = .ok .skip W') (hK : K (a.put o.dst undef) W') : o.wpIn F n P a W K Q := by
  refine ⟨fun f _ => by rw [hF.fn]; trivial, ?_⟩
  rw [Oper.semAt_eq _ _ _ hnd, hv]
  exact hK
end

section
variable {P : Program} {β : Ren} {w0 : World} {B N : Nat} {O : Fr} {m : Nat} {S : St} {a : Act} {W : World} {cts : Cts P}

theorem rdP_run {α : Type} {q : Option α} {x : α} {rd : List Loc} (h : (rdP q).run S = some (x, rd)) : q = some x := by
  cases q with
  | none => cases h
  | some y => simp only [rdP, Rd.run, Option.some.injEq, Prod.mk.injEq] at h; rw [h.1]

theorem ret_run {α : Type} {y x : α} {rd : List Loc} (h : (Rd.ret y).run S = some (x, rd)) : y = x := by
  simp only [Rd.run, Option.some.injEq, Prod.mk.injEq] at h; exact h.1

theorem denCt_ctOf {y : SV} {v : Value} (h : den β y = some v) : denCt β (ctOf y) = some v.cells := by
  cases y with
  | v x => simp only [den, Option.some.injEq] at h; subst h; rfl
  | ptr b o =>
    simp only [ctOf, denCt, dens, h]
    simp only [den, adr, Option.map_eq_some_iff] at h
    obtain ⟨k, _, rfl⟩ := h
    rfl
  | fn f c =>
    simp only [ctOf, denCt, dens, h]
    simp only [den] at h
    split at h
    · simp only [Option.some.injEq] at h; subst h; rfl
    · cases h
  | yld l =>
    simp only [ctOf, denCt, dens, h]
    simp only [den, Option.map_eq_some_iff] at h
    obtain ⟨k, _, rfl⟩ := h
    rfl
  | sl b o n c =>
    simp only [ctOf, denCt, dens, h]
    simp only [den, Option.map_eq_some_iff] at h
    obtain ⟨k, _, rfl⟩ := h
    rfl
  | row r =>
    simp only [ctOf, denCt, dens, h]
    simp only [den, Option.map_eq_some_iff] at h
    obtain ⟨k, _, rfl⟩ := h
    rfl
  | rp r j o sz =>
    simp only [ctOf, denCt, dens, h]
    simp only [den, Option.map_eq_some_iff] at h
    obtain ⟨k, _, rfl⟩ := h
    rfl
  | mix t l =>
    cases t with
    | true =>
      simp only [ctOf, denCt, dens, h]
      simp only [den, Option.map_eq_some_iff, cond_true] at h
      obtain ⟨k, _, rfl⟩ := h
      rfl
    | false =>
      simp only [den, Option.map_eq_some_iff, cond_false] at h
      obtain ⟨k, hk, rfl⟩ := h
      simp only [ctOf, denCt, dens_sv, hk]
      rfl

theorem fallback_run {o : Oper} {res : Res} {rd : List Loc} (h : R β w0 B N O m S a W) (hns : ∀ cs b, o.op ≠ .select cs b) (hr : (fallback P o).run S = some (res, rd)) :
    ∃ v, (execOp a.eval o).run P W = .ok (.value v) W ∧ res = ⟨.v v, [], []⟩ := by
  unfold fallback at hr
  obtain ⟨vs, rd1, rd2, h1, h2⟩ := Rd.run_bind hr
  have hvs := rdVs_run h h1
  split at h2
  · rename_i v hv
    have := ret_run h2
    refine ⟨v, ?_, this.symm⟩
    have hc : execOp a.eval o = execOp (rho o.op.operands.toList vs) o := execOp_congr o hns (fun x hx => by
      rw [hvs, rho_eval a _ x (by simpa using hx)])
    rw [hc]
    exact pureRun_run hv W
  · cases h2

theorem placeAt_run {ix : Value} {len : Nat} {dec : Dec} {j : Nat} {ps : List Prop} (h : placeAt ix len dec = some (j, ps)) (hp : ∀ p ∈ ps, p) :
    ∃ k, ix = .int k (j : Int) ∧ j < len := by
  unfold placeAt at h
  split at h
  · rename_i k i
    split at h
    · rename_i j'
      cases hb : Nat.blt j' len with
      | false => rw [hb] at h; cases h
      | true =>
        rw [hb] at h
        simp only [cond_true, Option.some.injEq, Prod.mk.injEq] at h
        obtain ⟨rfl, rfl⟩ := h
        have : i = (j' : Int) := hp _ (by simp)
        subst this
        exact ⟨k, rfl, by simpa [Nat.blt_eq] using hb⟩
    · split at h
      · rename_i j'
        cases hb : Nat.blt j' len with
        | false => rw [hb] at h; cases h
        | true =>
          rw [hb] at h
          simp only [cond_true, Option.some.injEq, Prod.mk.injEq] at h
          obtain ⟨rfl, rfl⟩ := h
          exact ⟨k, rfl, by simpa [Nat.blt_eq] using hb⟩
      · cases h
  · cases h

theorem plainV_run {op : BinOp} {t : TypeId} {x y : Operand} {u v : Value} {res : Res} (h : plainV P op t x y u v = some res) :
    ∃ z, res.x = .v z ∧ res.wr = [] ∧ ∀ W, ((do eqGuard op t x y u v; binOp op t u v : Sem Value)).run P W = .ok z W := by
  unfold plainV at h
  split at h
  · rename_i z hz
    simp only [Option.some.injEq] at h
    subst h
    exact ⟨z, rfl, rfl, fun W => pureRun_run hz W⟩
  · cases h

theorem eqV_run {op : BinOp} {t : TypeId} {x y : Operand} {u v : Value} {res : Res} (h : eqV P op t x y u v = some res) :
    ∃ z, res.x = .v z ∧ res.wr = [] ∧ ∀ W, ((do eqGuard op t x y u v; binOp op t u v : Sem Value)).run P W = .ok z W := by
  unfold eqV at h
  split at h
  · rename_i cs r hg he
    have hb : ∀ W, (Op.equal t (.agg cs) v).run P W = .ok r W := fun W => eqv_run he
    split at h
    · simp only [Option.some.injEq] at h; subst h
      refine ⟨.bool r, rfl, rfl, fun W => ?_⟩
      have hbin : binOp .eql t (.agg cs) v = (do pure (.bool (← Op.equal t (.agg cs) v))) := by cases v <;> rfl
      simp only [Sem.run_bind, pureRun_run hg W, Result.andThen_ok, hbin, hb W, Sem.run_pure]
    · simp only [Option.some.injEq] at h; subst h
      refine ⟨.bool (!r), rfl, rfl, fun W => ?_⟩
      have hbin : binOp .neq t (.agg cs) v = (do pure (.bool (!(← Op.equal t (.agg cs) v)))) := by cases v <;> rfl
      simp only [Sem.run_bind, pureRun_run hg W, Result.andThen_ok, hbin, hb W, Sem.run_pure]
    · cases h
  · cases h

theorem shV_run {op : BinOp} {t : TypeId} {x y : Operand} {u v : Value} {res : Res} (h : shV op u v = some res) (hp : ∀ p ∈ res.ps, p) :
    ∃ z, res.x = .v z ∧ res.wr = [] ∧ ∀ W, ((do eqGuard op t x y u v; binOp op t u v : Sem Value)).run P W = .ok z W := by
  unfold shV at h
  split at h
  · rename_i k m k' c
    split at h
    · simp only [Option.some.injEq] at h; subst h
      have h0 : 0 ≤ c := hp _ (by simp)
      refine ⟨_, rfl, rfl, fun W => ?_⟩
      simp [eqGuard, binOp, Op.shift, Int.not_lt.2 h0]
    · simp only [Option.some.injEq] at h; subst h
      have h0 : 0 ≤ c := hp _ (by simp)
      refine ⟨_, rfl, rfl, fun W => ?_⟩
      simp [eqGuard, binOp, Op.shift, Int.not_lt.2 h0]
    · cases h
  · cases h

theorem divV_run {op : BinOp} {t : TypeId} {x y : Operand} {u v : Value} {res : Res} (h : divV op u v = some res) (hp : ∀ p ∈ res.ps, p) :
    ∃ z, res.x = .v z ∧ res.wr = [] ∧ ∀ W, ((do eqGuard op t x y u v; binOp op t u v : Sem Value)).run P W = .ok z W := by
  unfold divV at h
  split at h
  · rename_i k m k' c
    cases hk : decide (k = k') with
    | false => rw [hk] at h; cases h
    | true =>
      rw [hk] at h
      have : k = k' := of_decide_eq_true hk
      subst this
      simp only [cond_true] at h
      split at h
      · simp only [Option.some.injEq] at h; subst h
        have h0 : c ≠ 0 := hp _ (by simp)
        refine ⟨_, rfl, rfl, fun W => ?_⟩
        simp [eqGuard, binOp, Op.intDiv, h0]
      · simp only [Option.some.injEq] at h; subst h
        have h0 : c ≠ 0 := hp _ (by simp)
        refine ⟨_, rfl, rfl, fun W => ?_⟩
        simp [eqGuard, binOp, Op.intDiv, h0]
      · cases h
  · cases h

theorem binV_run {op : BinOp} {t : TypeId} {x y : Operand} {u v : Value} {res : Res} (h : binV P op t x y u v = some res) (hp : ∀ p ∈ res.ps, p) :
    ∃ z, res.x = .v z ∧ res.wr = [] ∧ ∀ W, ((do eqGuard op t x y u v; binOp op t u v : Sem Value)).run P W = .ok z W := by
  unfold binV at h
  cases op <;> dsimp only at h
  case eql => cases hb : isAddrFree u <;> rw [hb] at h <;> first | exact plainV_run h | exact eqV_run h
  case neq => cases hb : isAddrFree u <;> rw [hb] at h <;> first | exact plainV_run h | exact eqV_run h
  case shl => cases hb : isConst y <;> rw [hb] at h <;> first | exact plainV_run h | exact shV_run h hp
  case shr => cases hb : isConst y <;> rw [hb] at h <;> first | exact plainV_run h | exact shV_run h hp
  case quo => cases hb : isConst y <;> rw [hb] at h <;> first | exact plainV_run h | exact divV_run h hp
  case rem => cases hb : isConst y <;> rw [hb] at h <;> first | exact plainV_run h | exact divV_run h hp
  all_goals exact plainV_run h

theorem rdOpt_run {x : Option Operand} {v : Option Value} {rd : List Loc} (h : R β w0 B N O m S a W) (hr : (rdOpt x).run S = some (v, rd)) : v = x.map a.eval := by
  cases x with
  | none => exact (ret_run hr).symm
  | some y =>
    obtain ⟨z, rd1, rd2, h1, h2⟩ := Rd.run_bind hr
    rw [← ret_run h2, Option.map_some, rdV_run h h1]

theorem rdParts_run : ∀ {xs : List (Nat × Operand)} {l : List (Nat × Value)} {rd : List Loc}, R β w0 B N O m S a W → (rdParts xs).run S = some (l, rd) → l = xs.map fun (i, x) => (i, a.eval x)
  | [], l, rd, _, hr => by rw [← ret_run hr]; rfl
  | (i, x) :: r, l, rd, h, hr => by
    obtain ⟨v, rd1, rd2, h1, h2⟩ := Rd.run_bind hr
    obtain ⟨l', rd3, rd4, h3, h4⟩ := Rd.run_bind h2
    rw [← ret_run h4, List.map_cons, ← rdV_run h h1, rdParts_run h h3]

theorem run_buildSlice {t : TypeId} {len : Nat} {parts : Array (Nat × Value)} {e : TypeId} {cells : Array Value} (h : pureRun P (bsCells t len parts) = some (e, cells)) (W : World) :
    (Instr.buildSlice t len parts).run P W = .ok (.slice (some ⟨W.heap.size, 0, none⟩) len len) (W.alloc (.cells cells e)) := by
  have h1 := pureRun_run h W
  unfold bsCells at h1
  unfold Instr.buildSlice
  simp only [Sem.run_bind] at h1 ⊢
  generalize (underlying t).run P W = q at h1 ⊢
  cases q with
  | halt x w => simp [Result.andThen] at h1
  | ok d w =>
    simp only [Result.andThen_ok] at h1 ⊢
    cases d <;> try (cases h1; done)
    rename_i elem
    simp only [Sem.run_bind] at h1 ⊢
    generalize (sizeOf elem).run P w = q at h1 ⊢
    cases q with
    | halt x w => simp [Result.andThen] at h1
    | ok size w =>
      simp only [Result.andThen_ok] at h1 ⊢
      by_cases hle : len * size > 2 ^ 24
      · rw [if_pos hle] at h1
        cases h1
      · rw [if_neg hle] at h1 ⊢
        by_cases hz : len * size = 0
        · rw [if_pos hz] at h1 ⊢
          simp only [Sem.run_bind, Sem.run_pure, Result.andThen_ok] at h1 ⊢
          generalize Instr.fill _ _ _ = q at h1 ⊢
          cases q with
          | none => cases h1
          | some cs =>
            simp only [Sem.run_pure, Result.ok.injEq, Prod.mk.injEq] at h1
            obtain ⟨⟨rfl, rfl⟩, rfl⟩ := h1
            rfl
        · rw [if_neg hz] at h1 ⊢
          simp only [Sem.run_bind] at h1 ⊢
          generalize (zeroValue elem).run P w = q at h1 ⊢
          cases q with
          | halt x w => cases h1
          | ok zero w =>
            simp only [Result.andThen_ok, Sem.run_pure] at h1 ⊢
            generalize Instr.fill _ _ _ = q at h1 ⊢
            cases q with
            | none => cases h1
            | some cs =>
              simp only [Sem.run_pure, Result.ok.injEq, Prod.mk.injEq] at h1
              obtain ⟨⟨rfl, rfl⟩, rfl⟩ := h1
              rfl

/-! ### Rows -/
theorem slEl_spec {ty : TypeId} {sz : Nat} {vs : List Value} {off n : Nat} {el : Nat → Value} (h : slEl P ty sz vs off n = some el) :
    off + n * sz ≤ vs.length ∧ ∀ j, j < n → (el j).cells.size = sz ∧ ∀ i, i < sz → vs[off + (j * sz + i)]? = (el j).cells[i]? := by
  unfold slEl at h
  cases hb : Nat.ble (off + n * sz) vs.length with
  | false => rw [hb] at h; cases h
  | true =>
    rw [hb] at h
    simp only [cond_true] at h
    have hle := Nat.le_of_ble_eq_true hb
    refine ⟨hle, fun j hj => ?_⟩
    have hjs : (j + 1) * sz ≤ n * sz := Nat.mul_le_mul_right _ hj
    rw [Nat.add_mul] at hjs
    split at h
    · simp only [Option.some.injEq] at h; subst h
      refine ⟨by simp [Value.cells]; omega, fun i hi => ?_⟩
      simp only [Value.cells, List.getElem?_toArray, List.getElem?_take, if_pos hi, List.getElem?_drop]
      congr 1
      omega
    · cases hc : (Nat.beq sz 1 && ((vs.drop off).take n).all Value.oneCell') with
      | false => rw [hc] at h; cases h
      | true =>
        rw [hc] at h
        simp only [cond_true, Option.some.injEq] at h
        subst h
        simp only [Bool.and_eq_true] at hc
        have h1 := Nat.eq_of_beq_eq_true hc.1
        subst h1
        have hlt : off + j < vs.length := by omega
        have hone : (vs.getD (off + j) undef).oneCell' = true := by
          refine List.all_eq_true.1 hc.2 _ ?_
          refine List.mem_iff_getElem?.2 ⟨j, ?_⟩
          rw [List.getElem?_take, if_pos hj, List.getElem?_drop]
          simp [List.getD, hlt]
        have hcells : (vs.getD (off + j) undef).cells = #[vs.getD (off + j) undef] := by
          generalize vs.getD (off + j) undef = x at hone
          cases x <;> first | rfl | cases hone
        rw [hcells]
        refine ⟨rfl, fun i hi => ?_⟩
        obtain rfl : i = 0 := by omega
        simp [List.getD, hlt]
    · cases h

theorem rowLoad_run {t : TypeId} {q : RowS} {j off sz : Nat} {y : Value} {p : RP} (hq : RowR W q p) (hj : j < q.n) (h : rowLoad P t q j off sz = some y) : (loadVar t ⟨p.k, p.off + (j * sz + off), none⟩).run P W = .ok y W := by
  unfold rowLoad at h
  cases hb : Nat.beq sz q.sz with
  | false => rw [hb] at h; cases h
  | true =>
    rw [hb] at h
    simp only [cond_true] at h
    have hsz := Nat.eq_of_beq_eq_true hb
    subst hsz
    obtain ⟨cells, hk, _, hel⟩ := hq.mem
    obtain ⟨hs, hc⟩ := hel j hj
    have part : ∀ (i : TypeInfo) (l : List Value) (off : Nat), isAggT P t = some true → P.info? t = some i → l.length = i.size → off + i.size ≤ q.sz → (∀ x, x < i.size → l[x]? = (q.el j).cells[off + x]?) →
        (loadVar t ⟨p.k, p.off + (j * q.sz + off), none⟩).run P W = .ok (.agg l.toArray) W := by
      intro i l off hagg hi hl hle hx
      have hload : (loadCells ⟨p.k, p.off + (j * q.sz + off), none⟩ l.length).run P W = .ok l.toArray W := by
        refine run_loadCells_list (P := P) W _ l (fun x v hv => ?_)
        have hxl : x < i.size := by rw [← hl]; exact (List.getElem?_eq_some_iff.1 hv).1
        rw [addr_add, cell_of hk, show p.off + (j * q.sz + off) + x = p.off + (j * q.sz + (off + x)) by omega, hc (off + x) (by omega), ← hx x hxl]
        exact hv
      rw [hl] at hload
      simp only [loadVar, Sem.run_bind, isAggT_run hagg, Result.andThen_ok, if_true]
      simp only [sizeOf, typeInfo, Sem.run_bind, run_program, Result.andThen_ok, hi, Sem.run_pure, hload]
    split at h
    · rename_i hagg
      split at h
      · rename_i i hi
        split at h
        · cases hc2 : (Nat.beq i.size q.sz && isWhole (q.el j) q.sz) with
          | true =>
            rw [hc2] at h
            simp only [cond_true, Option.some.injEq] at h
            simp only [Bool.and_eq_true] at hc2
            have hi1 := Nat.eq_of_beq_eq_true hc2.1
            have hw := hc2.2
            unfold isWhole at hw
            split at hw
            · rename_i cs hcs
              rw [hcs] at h hc
              subst h
              have := part i cs.toList 0 hagg hi (by have := Nat.eq_of_beq_eq_true hw; simp; omega) (by omega) (fun x _ => by rw [hcs]; simp [Value.cells])
              simpa using this
            · cases hw
          | false =>
            rw [hc2] at h
            simp only [cond_false] at h
            cases hle : Nat.ble i.size q.sz with
            | false => rw [hle] at h; cases h
            | true =>
              rw [hle] at h
              simp only [cond_true, Option.some.injEq] at h
              subst h
              have := Nat.le_of_ble_eq_true hle
              exact part i _ 0 hagg hi (by simp [hs]; omega) (by omega) (fun x hx => by simp [hx])
        · cases hle : Nat.ble (off + i.size) q.sz with
          | false => rw [hle] at h; cases h
          | true =>
            rw [hle] at h
            simp only [cond_true, Option.some.injEq] at h
            subst h
            have := Nat.le_of_ble_eq_true hle
            exact part i _ off hagg hi (by simp [hs]; omega) this (fun x hx => by simp [hx])
      · cases h
    · rename_i hagg
      cases hlt : Nat.blt off q.sz with
      | false => rw [hlt] at h; cases h
      | true =>
        rw [hlt] at h
        simp only [cond_true] at h
        have hlt : off < q.sz := by simpa [Nat.blt_eq] using hlt
        have hcell : W.cell? ⟨p.k, p.off + (j * q.sz + off), none⟩ = some y := by
          rw [cell_of hk, hc off hlt]
          simpa using h
        simp only [loadVar, Sem.run_bind, isAggT_run hagg, Result.andThen_ok]
        simp [load, Sem.run, hcell]
    · cases h

theorem placeR_run {ix : Value} {len : Nat} {dec : Dec} {j : Nat} {ps : List Prop} (h : placeR ix len dec = some (j, ps)) (hp : ∀ p ∈ ps, p) :
    ∃ k, ix = .int k (j : Int) ∧ j < len := by
  unfold placeR at h
  split at h
  · rename_i k i
    split at h
    · rename_i j'
      simp only [Option.some.injEq, Prod.mk.injEq] at h
      obtain ⟨rfl, rfl⟩ := h
      have : i = (j' : Int) := hp _ (by simp)
      subst this
      exact ⟨k, rfl, hp _ (by simp)⟩
    · split at h
      · rename_i j'
        simp only [Option.some.injEq, Prod.mk.injEq] at h
        obtain ⟨rfl, rfl⟩ := h
        exact ⟨k, rfl, hp _ (by simp)⟩
      · cases h
  · cases h

theorem rdD_run {x : Operand} {d : DV} {rd : List Loc} (h : R β w0 B N O m S a W) (hr : (rdD P x).run S = some (d, rd)) : Shows W d (a.eval x) := by
  obtain ⟨y, rd1, rd2, h1, h2⟩ := Rd.run_bind hr
  have hy := rdX_run h h1
  split at h2
  · rw [← ret_run h2]
    simpa [den, Shows] using hy.symm
  · rw [← ret_run h2]
    simpa [den, adrs, Shows] using hy.symm
  · rename_i r
    obtain ⟨q, rd3, rd4, h3, h4⟩ := Rd.run_bind h2
    rw [← ret_run h4]
    obtain ⟨p, hp, hw⟩ := h.rs r q (rdR_run h3)
    simp only [den, hp, Option.map_some, Option.some.injEq] at hy
    exact ⟨p, hy.symm, hw.alien⟩
  · rename_i b off n cap
    cases hnc : Nat.ble n cap with
    | false => rw [hnc] at h2; cases h2
    | true =>
    rw [hnc] at h2
    have hnc := Nat.le_of_ble_eq_true hnc
    obtain ⟨⟨c, ty⟩, rd3, rd4, h3, h4⟩ := Rd.run_bind h2
    dsimp only at h4
    split at h4
    · rename_i i vs hi hvs
      obtain ⟨el, rd5, rd6, h5, h6⟩ := Rd.run_bind h4
      rw [← ret_run h6]
      obtain ⟨k, cells, hk, hc, hh⟩ := h.bs _ _ _ (rdB_run h3)
      have hd := dens_plain hvs (dens_ctList hc)
      obtain ⟨hle, hel⟩ := slEl_spec (rdP_run h5)
      simp only [den, hk, Option.map_some, Option.some.injEq] at hy
      refine ⟨⟨false, k, off, n, cap⟩, hy.symm, ?_⟩
      · refine ⟨rfl, hnc, fun e => (by cases e), cells, hh, fun e => (by cases e), fun j hj => ?_⟩
        obtain ⟨e1, e2⟩ := hel j hj
        refine ⟨e1, fun x hx => ?_⟩
        rw [← e2 x hx, ← hd]
        simp
    · cases h4
  · cases h2

theorem rdDs_run : ∀ {xs : List Operand} {ds : List DV} {rd : List Loc}, R β w0 B N O m S a W → (rdDs P xs).run S = some (ds, rd) → ShowsL W ds (xs.map a.eval)
  | [], ds, rd, _, hr => by simp only [rdDs, Rd.run, Option.some.injEq, Prod.mk.injEq] at hr; rw [← hr.1]; trivial
  | x :: r, ds, rd, h, hr => by
    obtain ⟨v, rd1, rd2, h1, h2⟩ := Rd.run_bind hr
    obtain ⟨l, rd3, rd4, h3, h4⟩ := Rd.run_bind h2
    simp only [Rd.run, Option.some.injEq, Prod.mk.injEq] at h4
    obtain ⟨rfl, _⟩ := h4
    exact ⟨rdD_run h h1, rdDs_run h h3⟩

theorem row_owns {q : RowS} {p : RP} (hw : RowR W q p) (ho : q.own = true) : ∃ xs, W.ownsRow 0 q.ty q.sz (.slice (some ⟨p.k, p.off, none⟩) p.n p.cap) q.n xs ∧ ∀ j, j < q.n → ∀ i, i < q.sz → xs[j * q.sz + i]? = (q.el j).cells[i]? := by
  obtain ⟨h1, h2, h3⟩ := hw.own ho
  obtain ⟨cells, hc, hs, hel⟩ := hw.mem
  have hs := hs ho
  have hcap := hw.cap
  have hle : q.n * q.sz ≤ cells.size := by rw [hs]; exact Nat.mul_le_mul_right _ hcap
  refine ⟨cells.toList.take (q.n * q.sz), ⟨by simp; omega, .inr ⟨p.k, p.cap, cells, by rw [h2, hw.n], Nat.zero_le _, hc, hcap, h3, hs, rfl⟩⟩, fun j hj i hi => ?_⟩
  have : (j + 1) * q.sz ≤ q.n * q.sz := Nat.mul_le_mul_right _ hj
  rw [Nat.add_mul] at this
  obtain ⟨_, e⟩ := hel j hj
  rw [← e i hi, h2, List.getElem?_take, if_pos (by omega)]
  simp

theorem owns_row {w : World} {e : TypeId} {sz n : Nat} {v : Value} {xs : List Value} {el : Nat → Value} (h : w.ownsRow 0 e sz v n xs) (hn : 0 < n) (hel : ∀ j, j < n → (el j).cells.size = sz ∧ ∀ i, i < sz → xs[j * sz + i]? = (el j).cells[i]?) :
    ∃ p : RP, v = .slice (some ⟨p.k, p.off, none⟩) p.n p.cap ∧ p.own = true ∧ v.ownBlock = some p.k ∧ RowR w ⟨e, sz, n, el, true⟩ p := by
  obtain ⟨hl, ⟨rfl, h0⟩ | ⟨g, cap, cur, rfl, _, hc, hcap, hmax, hs, ht⟩⟩ := h
  · omega
  · refine ⟨⟨true, g, 0, n, cap⟩, rfl, rfl, rfl, rfl, hcap, fun _ => ⟨rfl, rfl, hmax⟩, cur, hc, fun _ => hs, fun j hj => ?_⟩
    obtain ⟨e1, e2⟩ := hel j hj
    refine ⟨e1, fun i hi => ?_⟩
    have : (j + 1) * sz ≤ n * sz := Nat.mul_le_mul_right _ hj
    rw [Nat.add_mul] at this
    rw [← e2 i hi, ← ht, List.getElem?_take]
    have : j * sz + i < n * sz := by have : i < sz := hi; omega
    rw [if_pos this]
    simp

theorem isOne_spec {e : TypeId} {x : Value} {sz : Nat} (h : isOne P e x sz = true) : x.cells.size = sz ∧ (∀ u ∈ x.cells.toList, u.oneCell' = true) ∧ (isAggT P e = some false → x.oneCell' = true) := by
  simp only [isOne, Bool.and_eq_true] at h
  refine ⟨Nat.eq_of_beq_eq_true h.1, List.all_eq_true.1 h.2.1, fun he => ?_⟩
  have := h.2.2
  rw [he] at this
  exact this

theorem loadC_cells {t : TypeId} {i : TypeInfo} {c : Ct} {off : Nat} {u : Value} {cells : Array Value} (hc : denCt β c = some cells) (hi : P.info? t = some i) (h : loadC P t c off = some (.v u)) (ho : isOne P t u i.size = true) : ∀ j x, u.cells.toList[j]? = some x → cells[off + j]? = some x := by
  intro j x hx
  have hl := dens_ctList hc
  have hone := (isOne_spec ho).2.2
  have gen : loadGen c off i.size = some (.v u) → cells[off + j]? = some x := by
    intro h
    unfold loadGen at h
    split at h
    · rename_i l hp
      cases hb : Nat.beq l.length i.size with
      | false => rw [hb] at h; cases h
      | true =>
        rw [hb] at h
        simp only [cond_true, Option.some.injEq, SV.v.injEq] at h
        subst h
        have hd := dens_plain hp (dens_take i.size (dens_drop off hl))
        simp only [Value.cells] at hx
        rw [← hd, List.getElem?_take] at hx
        split at hx
        · rw [List.getElem?_drop] at hx; simpa using hx
        · cases hx
    · split at h
      · rename_i l hp
        cases hb : Nat.beq l.length i.size with
        | false => rw [hb] at h; cases h
        | true => rw [hb] at h; cases h
      · cases h
  unfold loadC at h
  split at h
  · rw [hi] at h
    simp only at h
    split at h
    · rename_i z
      cases hw : isWhole z i.size with
      | true =>
        rw [hw] at h
        simp only [cond_true, Option.some.injEq, SV.v.injEq] at h
        subst h
        simp only [denCt, Option.some.injEq] at hc
        subst hc
        simpa using hx
      | false => rw [hw] at h; exact gen h
    · exact gen h
  · rename_i hagg
    obtain ⟨v, hv, hx2⟩ := dens_get hl h
    simp only [den, Option.some.injEq] at hv
    subst hv
    have hcs : u.cells = #[u] := by
      have := hone hagg
      cases u <;> first | rfl | cases this
    rw [hcs] at hx
    match j, hx with
    | 0, hx => simp at hx; subst hx; simpa using hx2
  · cases h

theorem appRd_run {x y : Operand} {t : TypeId} {nm : Nat} {res : Res} {rd : List Loc} (type : TypeId) (h : R β w0 B N O m S a W) (hr : (appRd P x y t nm).run S = some (res, rd)) (hp : ∀ p ∈ res.ps, p) :
    ∃ β' v W', Ext β β' ∧ R β' w0 B N O m (S.puts res.wr) a W' ∧ den β' res.x = some v ∧ (Builtin.append_ #[t, t] type #[a.eval x, a.eval y]).run P W = .ok v W' := by
  unfold appRd at hr
  split at hr
  · rename_i e hu
    split at hr
    · rename_i i hi
      split at hr
      · rename_i z hz
        cases hok : appOk i z with
        | false => rw [hok] at hr; cases hr
        | true =>
          rw [hok] at hr
          simp only [appOk, Bool.and_eq_true] at hok
          have ok1 := Nat.le_of_ble_eq_true hok.1
          have ok2 := Nat.le_of_ble_eq_true hok.2.1
          have ok3 := Nat.eq_of_beq_eq_true hok.2.2
          obtain ⟨sy, rd1, rd2, h1, h2⟩ := Rd.run_bind hr
          have hy := rdX_run h h1
          split at h2
          · rename_i b off cap
            obtain ⟨⟨c, ty⟩, rd3, rd4, h3, h4⟩ := Rd.run_bind h2
            obtain ⟨su, rd5, rd6, h5, h6⟩ := Rd.run_bind h4
            split at h6
            · rename_i u
              cases hone : isOne P e u i.size with
              | false => rw [hone] at h6; cases h6
              | true =>
                rw [hone] at h6
                simp only [cond_true] at h6
                obtain ⟨sx, rd7, rd8, h7, h8⟩ := Rd.run_bind h6
                have hx := rdX_run h h7
                obtain ⟨⟨q, wr⟩, rd9, rd10, h9, h10⟩ := Rd.run_bind h8
                cases hb : Nat.blt nm gbase with
                | false => rw [hb] at h10; cases h10
                | true =>
                rw [hb] at h10
                simp only [cond_true, Rd.run, St.get] at h10
                cases hmem : memN nm S.us with
                | true => simp [hmem, Rd.run] at h10
                | false =>
                simp only [hmem, cond_false, Rd.run, Option.some.injEq, Prod.mk.injEq] at h10
                obtain ⟨rfl, _⟩ := h10
                have hn : q.n < 1000000 := hp _ (by simp)
                obtain ⟨k, cells, hk, hc, hh⟩ := h.bs _ _ _ (rdB_run h3)
                simp only [den, hk, Option.map_some, Option.some.injEq] at hy
                obtain ⟨hus, hu1, _⟩ := isOne_spec hone
                have hcell := loadC_cells hc hi (rdP_run h5) hone
                have hnews : ∀ j v, u.cells.toList[j]? = some v → W.cell? ((⟨k, off, none⟩ : Addr).add j) = some v := fun j v hv => by
                  rw [addr_add, cell_of hh]
                  exact hcell j v hv
                -- the row that stands there
                obtain ⟨vx, xs, hvx, hown, helq, hcase⟩ : ∃ vx xs, a.eval x = vx ∧ W.ownsRow 0 e i.size vx q.n xs ∧ (∀ j, j < q.n → (q.el j).cells.size = i.size ∧ ∀ k, k < i.size → xs[j * i.size + k]? = (q.el j).cells[k]?) ∧
                    ((wr = [] ∧ vx.ownBlock = none) ∨ ∃ r p, wr = [.r r none] ∧ lookR S.rs r = some q ∧ q.own = true ∧ β.r r = some p ∧ p.own = true ∧ vx.ownBlock = some p.k) := by
                  unfold rowBase at h9
                  split at h9
                  · have := ret_run h9
                    simp only [Prod.mk.injEq] at this
                    obtain ⟨rfl, rfl⟩ := this
                    simp only [den, Option.some.injEq] at hx
                    exact ⟨_, [], hx.symm, World.ownsRow_nil _ _ _ _, fun j hj => absurd hj (Nat.not_lt_zero _), .inl ⟨rfl, rfl⟩⟩
                  · rename_i r
                    obtain ⟨q', rd11, rd12, h11, h12⟩ := Rd.run_bind h9
                    cases hck : (q'.own && (Nat.beq q'.ty e && Nat.beq q'.sz i.size)) with
                    | false => rw [hck] at h12; cases h12
                    | true =>
                      rw [hck] at h12
                      have := ret_run h12
                      simp only [Prod.mk.injEq] at this
                      obtain ⟨rfl, rfl⟩ := this
                      simp only [Bool.and_eq_true] at hck
                      have e1 := Nat.eq_of_beq_eq_true hck.2.1
                      have e2 := Nat.eq_of_beq_eq_true hck.2.2
                      obtain ⟨p, hpp, hw⟩ := h.rs r q' (rdR_run h11)
                      obtain ⟨xs, hown, hxs⟩ := row_owns hw hck.1
                      simp only [den, hpp, Option.map_some, Option.some.injEq] at hx
                      obtain ⟨_, _, _, hel⟩ := hw.mem
                      rw [e1, e2] at hown
                      rw [e2] at hxs
                      exact ⟨_, xs, hx.symm, hown, fun j hj => ⟨by rw [← e2]; exact (hel j hj).1, hxs j hj⟩, .inr ⟨r, p, rfl, rdR_run h11, hck.1, hpp, (hw.own hck.1).1, rfl⟩⟩
                  · cases h9
                have hm1 : q.n + 1 ≤ maxLen := by simp only [maxLen]; omega
                have hby : (q.n + 1) * i.bytes ≤ 140737488355328 := by
                  have : (q.n + 1) * i.bytes ≤ 1000000 * 100000 := Nat.mul_le_mul (by omega) ok2
                  omega
                obtain ⟨v', w', hrun, hown', hgrow, _, hat⟩ := run_append_own_at (P := P) W 0 t type e i z i.size i.bytes hu hi hz rfl rfl ok3 ok1 vx q.n xs hown ⟨k, off, none⟩ 1 cap u.cells.toList (by simp [hus]) hnews hu1 hm1 hby (Nat.zero_le _)
                have hxl : xs.length = q.n * i.size := hown.1
                obtain ⟨p', hv', hpo', hblk', hw'⟩ := owns_row (el := (appQ e i.size q u).el) hown' (by omega) (fun j hj => by
                  by_cases ej : j = q.n
                  · subst ej
                    have : (appQ e i.size q u).el q.n = u := by simp [appQ]
                    rw [this]
                    refine ⟨hus, fun x hx => ?_⟩
                    rw [List.getElem?_append_right (by omega), hxl]
                    simp
                  · have : (appQ e i.size q u).el j = q.el j := by
                      have hb : Nat.beq j q.n = false := by
                        cases hbb : Nat.beq j q.n with
                        | false => rfl
                        | true => exact absurd (Nat.eq_of_beq_eq_true hbb) ej
                      simp only [appQ, hb, cond_false]
                    rw [this]
                    have hjn : j < q.n := by omega
                    obtain ⟨g1, g2⟩ := helq j hjn
                    refine ⟨g1, fun x hx => ?_⟩
                    have : (j + 1) * i.size ≤ q.n * i.size := Nat.mul_le_mul_right _ hjn
                    rw [Nat.add_mul] at this
                    rw [List.getElem?_append_left (by omega)]
                    exact g2 x hx)
                have hw'' : RowR w' (appQ e i.size q u) p' := hw'
                rw [hvx, ← hy]
                -- the state behind it
                have fin : ∀ (rs' : List (Nat × Option RowS)), (∀ r x, lookR rs' r = some x → lookR S.rs r = some x) → (∀ r x p, lookR rs' r = some x → β.r r = some p → vx.ownBlock ≠ some p.k) →
                    (∀ k', vx.ownBlock = some k' → (∃ r p', β.r r = some p' ∧ p'.own = true ∧ p'.k = k') ∧ ∀ b, β b ≠ some k') →
                    Ext β ⟨β.b, fun i => if i = nm then some p' else β.r i⟩ ∧ R ⟨β.b, fun i => if i = nm then some p' else β.r i⟩ w0 B N O m { S with us := nm :: S.us, rs := (nm, some (appQ e i.size q u)) :: rs' } a w' := by
                  intro rs' hsub hapart hob
                  have hpk : p'.k < w'.heap.size := by
                    obtain ⟨cs, hcs, _⟩ := hw''.mem
                    exact (Array.getElem?_eq_some_iff.1 hcs).1
                  refine h.newRow hmem hw'' hgrow.os hgrow.tape hgrow.output hgrow.size (fun r x hx => ⟨x, hsub r x hx, .inl rfl⟩) (fun k' hk' => ?_) hpk (fun _ hlt => ?_) (fun b hb' => ?_) (fun r x p hx hp' hpk' => ?_)
                  · by_cases ek : some k' = vx.ownBlock
                    · obtain ⟨g1, g2⟩ := hob k' ek.symm
                      exact .inr ⟨g1, fun r x p hx hp' e => hapart r x p hx hp' (by rw [e]; exact ek.symm), g2⟩
                    · exact .inl (hgrow.block k' hk' ek)
                  · rcases hat with hat | hat
                    · rw [hblk'] at hat
                      exact (hob p'.k hat.symm).1
                    · rw [hblk'] at hat
                      simp only [Option.some.injEq] at hat
                      omega
                  · rcases hat with hat | hat
                    · rw [hblk'] at hat
                      exact (hob p'.k hat.symm).2 b hb'
                    · rw [hblk'] at hat
                      simp only [Option.some.injEq] at hat
                      have := h.lt b _ hb'
                      omega
                  · exfalso
                    rcases hat with hat | hat
                    · rw [hblk'] at hat
                      exact hapart r x p hx hp' (by rw [hpk']; exact hat.symm)
                    · rw [hblk'] at hat
                      simp only [Option.some.injEq] at hat
                      have := h.rlt r p hp'
                      omega
                have hden : den ⟨β.b, fun i => if i = nm then some p' else β.r i⟩ (.row nm) = some v' := by simp [den, hv']
                rcases hcase with ⟨rfl, hob⟩ | ⟨r, p, rfl, hlr, hqo, hpp, hpo, hob⟩
                · obtain ⟨hE, hR⟩ := fin S.rs (fun _ _ h => h) (fun _ _ _ _ _ => by rw [hob]; simp) (fun k' hk' => by rw [hob] at hk'; cases hk')
                  exact ⟨_, v', w', hE, hR, hden, hrun⟩
                · obtain ⟨hE, hR⟩ := fin ((r, none) :: S.rs) (fun r' x hx => by
                      rw [lookR_cons] at hx
                      by_cases er : r = r'
                      · rw [if_pos er] at hx; cases hx
                      · rw [if_neg er] at hx; exact hx)
                    (fun r' x p2 hx hp2 e => by
                      rw [lookR_cons] at hx
                      by_cases er : r = r'
                      · rw [if_pos er] at hx; cases hx
                      · rw [if_neg er] at hx
                        rw [hob] at e
                        simp only [Option.some.injEq] at e
                        have := (h.ro r r' q x p p2 hlr hx hpp hp2 er e).1
                        rw [hqo] at this
                        cases this)
                    (fun k' hk' => by
                      rw [hob] at hk'
                      simp only [Option.some.injEq] at hk'
                      subst hk'
                      exact ⟨⟨r, p, hpp, hpo, rfl⟩, h.rb r q p hlr hpp⟩)
                  exact ⟨_, v', w', hE, hR, hden, hrun⟩
            · cases h6
          · cases h2
      · cases hr
    · cases hr
  · cases hr

theorem vop_wp {F : Fence} {n : Nat} {o : Oper} {nm : Nat} {dec : Dec} {res : Res} {rd : List Loc} {K : Act → World → Prop} {Q : Exit → Act → World → Prop} (hF : Loose F)
    (h : R β w0 B N O m S a W) (hr : (vop P cts o nm dec).run S = some (res, rd)) (hp : ∀ p ∈ res.ps, p)
    (hK : ∀ β' v W', Ext β β' → R β' w0 B N O m (S.puts res.wr) a W' → den β' res.x = some v → K (a.put o.dst v) W') : o.wpIn F n P a W K Q := by
  obtain ⟨dst, op, type, pos, after, guard⟩ := o
  have fb : (∀ cs b, op ≠ .select cs b) → (∀ c, op ≠ .defer c) → ∀ {rd' : List Loc}, (fallback P ⟨dst, op, type, pos, after, guard⟩).run S = some (res, rd') → Oper.wpIn F n P ⟨dst, op, type, pos, after, guard⟩ a W K Q := by
    intro hns hnd rd' hr
    obtain ⟨v, hv, rfl⟩ := fallback_run h hns hr
    exact wpIn_value hF hnd hv (hK β v W (.refl _) h rfl)
  cases op
  case move x =>
    obtain ⟨y, rd1, rd2, h1, h2⟩ := Rd.run_bind hr
    obtain rfl := ret_run h2
    exact wpIn_value hF (by simp) rfl (hK β _ W (.refl _) h (rdX_run h h1))
  case assign x =>
    obtain ⟨y, rd1, rd2, h1, h2⟩ := Rd.run_bind hr
    obtain rfl := ret_run h2
    exact wpIn_value hF (by simp) rfl (hK β _ W (.refl _) h (rdX_run h h1))
  case nilCheck x =>
    obtain ⟨y, rd1, rd2, h1, h2⟩ := Rd.run_bind hr
    have hy := rdX_run h h1
    split at h2
    · rename_i b off
      obtain rfl := ret_run h2
      simp only [den, adr, Option.map_eq_some_iff] at hy
      obtain ⟨kb, hkb, hy⟩ := hy
      refine wpIn_value hF (by simp) (v := .pointer (some ⟨kb, off, none⟩)) (W' := W) ?_ (hK β _ W (.refl _) h (by simp [den, adr, hkb]))
      simp only [execOp, ← hy, Sem.run_pure]
    · exact fb (by simp) (by simp) h2
  case pick c x y =>
    obtain ⟨z, rd1, rd2, h1, h2⟩ := Rd.run_bind hr
    have hz := rdV_run h h1
    split at h2
    · obtain ⟨z, rd3, rd4, h3, h4⟩ := Rd.run_bind h2
      obtain rfl := ret_run h4
      refine wpIn_value hF (by simp) (v := a.eval x) (W' := W) ?_ (hK β _ W (.refl _) h (rdX_run h h3))
      simp [execOp, hz, asBool]
    · obtain ⟨z, rd3, rd4, h3, h4⟩ := Rd.run_bind h2
      obtain rfl := ret_run h4
      refine wpIn_value hF (by simp) (v := a.eval y) (W' := W) ?_ (hK β _ W (.refl _) h (rdX_run h h3))
      simp [execOp, hz, asBool]
    · cases h2
  case alloc e =>
    simp only [vop] at hr
    split at hr
    · rename_i i hi
      split at hr
      · rename_i z hz
        cases hb : Nat.blt nm gbase with
        | false => rw [hb] at hr; cases hr
        | true =>
          rw [hb] at hr
          simp only [cond_true, Rd.run, St.get] at hr
          cases hl : memN nm S.us with
          | true => simp [hl, Rd.run] at hr
          | false =>
            simp only [hl, cond_false, Rd.run, Option.some.injEq, Prod.mk.injEq] at hr
            obtain ⟨rfl, _⟩ := hr
            obtain ⟨β', hm, hnm, hR⟩ := h.new (c := .whole z) (cells := z.cells) (ty := e) rfl hl (by simpa [Nat.blt_eq] using hb)
            refine wpIn_value hF (by simp) (v := .pointer (some ⟨W.heap.size, 0, none⟩)) (W' := W.alloc (.cells z.cells e)) ?_ (hK β' _ _ hm hR (by simp [den, adr, hnm]))
            simp only [execOp, Instr.alloc, zeroValue, typeInfo, Sem.run_bind, run_program, Result.andThen_ok, hi, Sem.run_pure, hz]
            rfl
      · cases hr
    · cases hr
  case box e x =>
    obtain ⟨y, rd1, rd2, h1, h2⟩ := Rd.run_bind hr
    have hy := rdX_run h h1
    cases hb : Nat.blt nm gbase with
    | false => rw [hb] at h2; cases h2
    | true =>
      rw [hb] at h2
      simp only [cond_true, Rd.run, St.get] at h2
      cases hl : memN nm S.us with
      | true => simp [hl, Rd.run] at h2
      | false =>
        simp only [hl, cond_false, Rd.run, Option.some.injEq, Prod.mk.injEq] at h2
        obtain ⟨rfl, _⟩ := h2
        obtain ⟨β', hm, hnm, hR⟩ := h.new (c := ctOf y) (ty := e) (denCt_ctOf hy) hl (by simpa [Nat.blt_eq] using hb)
        refine wpIn_value hF (by simp) (v := .pointer (some ⟨W.heap.size, 0, none⟩)) (W' := W.alloc (.cells (a.eval x).cells e)) ?_ (hK β' _ _ hm hR (by simp [den, adr, hnm]))
        rfl
  case load t x =>
    simp only [vop] at hr
    split at hr
    · rename_i g
      split at hr
      · rename_i v ty hlz
        obtain ⟨z, rd5, rd6, h5, h6⟩ := Rd.run_bind hr
        obtain rfl := ret_run h6
        obtain ⟨ty', hlzw⟩ := h.lzW _ (lookLz_mem hlz)
        obtain ⟨u, hu, hl⟩ := loadC_run (β := β) (c := .whole v) (cells := v.cells) rfl hlzw (rdP_run h5)
        refine wpIn_value hF (by simp) (v := u) (W' := W) ?_ (hK β u W (.refl _) h hu)
        have e : a.eval (.global g) = .pointer (some ⟨g, 0, none⟩) := rfl
        simp [execOp, e, Instr.loadAt, Instr.sureAddr, hl]
      · cases hr
    obtain ⟨y, rd1, rd2, h1, h2⟩ := Rd.run_bind hr
    have hy := rdX_run h h1
    split at h2
    · rename_i b off
      obtain ⟨⟨c, ty⟩, rd3, rd4, h3, h4⟩ := Rd.run_bind h2
      obtain ⟨z, rd5, rd6, h5, h6⟩ := Rd.run_bind h4
      obtain rfl := ret_run h6
      obtain ⟨k, cells, hk, hc, hh⟩ := h.bs _ _ _ (rdB_run h3)
      obtain ⟨v, hv, hl⟩ := loadC_run hc hh (rdP_run h5)
      refine wpIn_value hF (by simp) (v := v) (W' := W) ?_ (hK β v W (.refl _) h hv)
      simp only [den, adr, hk, Option.map_some, Option.some.injEq] at hy
      simp [execOp, ← hy, Instr.loadAt, Instr.sureAddr, hl]
    · rename_i r j off sz
      obtain ⟨q, rd3, rd4, h3, h4⟩ := Rd.run_bind h2
      obtain ⟨z, rd5, rd6, h5, h6⟩ := Rd.run_bind h4
      obtain rfl := ret_run h6
      obtain ⟨p, hpp, hw⟩ := h.rs r q (rdR_run h3)
      have hl := rowLoad_run hw (hp _ (by simp)) (rdP_run h5)
      refine wpIn_value hF (by simp) (v := z) (W' := W) ?_ (hK β z W (.refl _) h rfl)
      simp only [den, hpp, Option.map_some, Option.some.injEq] at hy
      simp [execOp, ← hy, Instr.loadAt, Instr.sureAddr, hl]
    · cases h2
  case store t x z =>
    obtain ⟨y, rd1, rd2, h1, h2⟩ := Rd.run_bind hr
    have hy := rdX_run h h1
    split at h2
    · rename_i b off
      obtain ⟨u, rd3, rd4, h3, h4⟩ := Rd.run_bind h2
      obtain ⟨⟨c, ty⟩, rd5, rd6, h5, h6⟩ := Rd.run_bind h4
      obtain ⟨c', rd7, rd8, h7, h8⟩ := Rd.run_bind h6
      obtain rfl := ret_run h8
      obtain ⟨k, cells, hk, hc, hh⟩ := h.bs _ _ _ (rdB_run h5)
      obtain ⟨cells', hc', hs⟩ := storeC_run hc (rdX_run h h3) hh (rdP_run h7)
      refine wpIn_skipv hF (by simp) (W' := W.setRow k cells') ?_ (hK β undef _ (.refl _) (h.turn hk hh hc') rfl)
      simp only [den, adr, hk, Option.map_some, Option.some.injEq] at hy
      simp [execOp, ← hy, Instr.storeAt, Instr.sureAddr, hs]
    · cases h2
  case indexAddr t x ix =>
    obtain ⟨y, rd1, rd2, h1, h2⟩ := Rd.run_bind hr
    have hy := rdX_run h h1
    split at h2
    · rename_i b off
      obtain ⟨i, rd3, rd4, h3, h4⟩ := Rd.run_bind h2
      have hi := rdV_run h h3
      split at h4
      · rename_i len e hu
        split at h4
        · rename_i inf hinf
          obtain ⟨⟨j, ps⟩, rd5, rd6, h5, h6⟩ := Rd.run_bind h4
          obtain rfl := ret_run h6
          obtain ⟨k, rfl, hj⟩ := placeAt_run (rdP_run h5) hp
          simp only [den, adr, Option.map_eq_some_iff] at hy
          obtain ⟨kb, hkb, hy⟩ := hy
          refine wpIn_value hF (by simp) (v := .pointer (some ⟨kb, off + j * inf.size, none⟩)) (W' := W) ?_ (hK β _ W (.refl _) h (by simp [den, adr, hkb]))
          have hj' : (0 : Int) ≤ j ∧ (j : Int) < len := ⟨by omega, by omega⟩
          simp only [execOp, hi, ← hy, Instr.indexAt, asIntOf, Sem.run_bind, Sem.run_pure, Result.andThen_ok, run_underlying hu, Instr.sureAddr, hj', and_self, if_true, sizeOf, typeInfo, run_program, hinf, Int.toNat_natCast, addr_add]
        · cases h4
      · cases h4
    · rename_i b off len cap
      obtain ⟨i, rd3, rd4, h3, h4⟩ := Rd.run_bind h2
      have hi := rdV_run h h3
      split at h4
      · rename_i e hu
        split at h4
        · rename_i inf hinf
          obtain ⟨⟨j, ps⟩, rd5, rd6, h5, h6⟩ := Rd.run_bind h4
          obtain rfl := ret_run h6
          obtain ⟨k, rfl, hj⟩ := placeAt_run (rdP_run h5) hp
          simp only [den, Option.map_eq_some_iff] at hy
          obtain ⟨kb, hkb, hy⟩ := hy
          refine wpIn_value hF (by simp) (v := .pointer (some ⟨kb, off + j * inf.size, none⟩)) (W' := W) ?_ (hK β _ W (.refl _) h (by simp [den, adr, hkb]))
          have hj' : (0 : Int) ≤ j ∧ (j : Int) < len := ⟨by omega, by omega⟩
          simp only [execOp, hi, ← hy, Instr.indexAt, asIntOf, Sem.run_bind, Sem.run_pure, Result.andThen_ok, run_underlying hu, hj', and_self, if_true, sizeOf, typeInfo, run_program, hinf, Int.toNat_natCast, addr_add]
        · cases h4
      · cases h4
    · rename_i r
      obtain ⟨i, rd3, rd4, h3, h4⟩ := Rd.run_bind h2
      have hi := rdV_run h h3
      split at h4
      · rename_i e hu
        split at h4
        · rename_i inf hinf
          obtain ⟨q, rd7, rd8, h7, h8⟩ := Rd.run_bind h4
          dsimp only at h8
          cases hsz : Nat.beq inf.size q.sz with
          | false => rw [hsz] at h8; cases h8
          | true =>
            rw [hsz] at h8
            have hsz := Nat.eq_of_beq_eq_true hsz
            obtain ⟨⟨j, ps⟩, rd5, rd6, h5, h6⟩ := Rd.run_bind h8
            obtain rfl := ret_run h6
            obtain ⟨k, rfl, hj⟩ := placeR_run (rdP_run h5) hp
            obtain ⟨p, hpp, hw⟩ := h.rs r q (rdR_run h7)
            simp only [den, hpp, Option.map_some, Option.some.injEq] at hy
            refine wpIn_value hF (by simp) (v := .pointer (some ⟨p.k, p.off + (j * q.sz + 0), none⟩)) (W' := W) ?_ (hK β _ W (.refl _) h (by simp [den, hpp]))
            have hj' : (0 : Int) ≤ j ∧ (j : Int) < p.n := ⟨by omega, by rw [hw.n]; omega⟩
            simp only [execOp, hi, ← hy, Instr.indexAt, asIntOf, Sem.run_bind, Sem.run_pure, Result.andThen_ok, run_underlying hu, hj', and_self, if_true, sizeOf, typeInfo, run_program, hinf, Int.toNat_natCast, addr_add, hsz, Nat.add_zero]
        · cases h4
      · cases h4
    · cases h2
  case slice t x lo hi mx =>
    obtain ⟨y, rd1, rd2, h1, h2⟩ := Rd.run_bind hr
    have hy := rdX_run h h1
    split at h2
    · rename_i b off
      obtain ⟨vl, rd3, rd4, h3, h4⟩ := Rd.run_bind h2
      obtain ⟨vh, rd5, rd6, h5, h6⟩ := Rd.run_bind h4
      obtain ⟨vm, rd7, rd8, h7, h8⟩ := Rd.run_bind h6
      split at h8
      · rename_i nn e hu
        split at h8
        · rename_i inf hinf
          obtain ⟨⟨l, hh, mm⟩, rd9, rd10, h9, h10⟩ := Rd.run_bind h8
          have hb := pureRun_run (rdP_run h9) W
          dsimp only at h10
          cases hml : Nat.beq mm l with
          | true => rw [hml] at h10; cases h10
          | false =>
            rw [hml] at h10
            obtain rfl := ret_run h10
            have hne : mm ≠ l := Nat.ne_of_beq_eq_false hml
            simp only [den, adr, Option.map_eq_some_iff] at hy
            obtain ⟨kb, hkb, hy⟩ := hy
            refine wpIn_value hF (by simp) (v := .slice (some ⟨kb, off + l * inf.size, none⟩) (hh - l) (mm - l)) (W' := W) ?_ (hK β _ W (.refl _) h (by simp [den, hkb]))
            rw [rdOpt_run h h3, rdOpt_run h h5, rdOpt_run h h7] at hb
            simp only [execOp, ← hy, Instr.sliceAt, Sem.run_bind, run_underlying hu, Result.andThen_ok, Instr.sureAddr, Sem.run_pure, hb, sizeOf, typeInfo, run_program, hinf, if_neg hne, addr_add]
        · cases h8
      · cases h8
    · rename_i b off len cap
      obtain ⟨vl, rd3, rd4, h3, h4⟩ := Rd.run_bind h2
      obtain ⟨vh, rd5, rd6, h5, h6⟩ := Rd.run_bind h4
      obtain ⟨vm, rd7, rd8, h7, h8⟩ := Rd.run_bind h6
      split at h8
      · rename_i e hu
        split at h8
        · rename_i inf hinf
          obtain ⟨⟨l, hh, mm⟩, rd9, rd10, h9, h10⟩ := Rd.run_bind h8
          have hb := pureRun_run (rdP_run h9) W
          obtain rfl := ret_run h10
          simp only [den, Option.map_eq_some_iff] at hy
          obtain ⟨kb, hkb, hy⟩ := hy
          refine wpIn_value hF (by simp) (v := .slice (some ⟨kb, bif Nat.beq mm l then off else off + l * inf.size, none⟩) (hh - l) (mm - l)) (W' := W) ?_ (hK β _ W (.refl _) h (by simp [den, hkb]))
          rw [rdOpt_run h h3, rdOpt_run h h5, rdOpt_run h h7] at hb
          simp only [execOp, ← hy, Instr.sliceAt, Instr.slice, Sem.run_bind, run_underlying hu, Result.andThen_ok, Sem.run_pure, hb, sizeOf, typeInfo, run_program, hinf]
          cases hml : Nat.beq mm l with
          | true => simp [Nat.eq_of_beq_eq_true hml]
          | false => simp [Nat.ne_of_beq_eq_false hml, addr_add]
        · cases h8
      · cases h8
    · rename_i r
      split at h2
      · cases h2
      · obtain ⟨vl, rd3, rd4, h3, h4⟩ := Rd.run_bind h2
        obtain ⟨vh, rd5, rd6, h5, h6⟩ := Rd.run_bind h4
        have hvl := rdOpt_run h h3
        have hvh := rdOpt_run h h5
        split at h6
        · rename_i l hh hl hhh
          split at h6
          · rename_i e hu
            split at h6
            · rename_i inf hinf
              obtain ⟨q, rd7, rd8, h7, h8⟩ := Rd.run_bind h6
              cases hsz : Nat.beq inf.size q.sz with
              | false => rw [hsz] at h8; cases h8
              | true =>
              rw [hsz] at h8
              have hsz := Nat.eq_of_beq_eq_true hsz
              cases hb : Nat.blt nm gbase with
              | false => rw [hb] at h8; cases h8
              | true =>
              rw [hb] at h8
              simp only [cond_true, Rd.run, St.get] at h8
              cases hmem : memN nm S.us with
              | true => simp [hmem, Rd.run] at h8
              | false =>
              simp only [hmem, cond_false, Rd.run, Option.some.injEq, Prod.mk.injEq] at h8
              obtain ⟨rfl, _⟩ := h8
              have p1 : l.getD 0 ≤ hh.getD q.n := hp _ (by simp)
              have p2 : hh.getD q.n ≤ q.n := hp _ (by simp)
              obtain ⟨p, hpp, hw⟩ := h.rs r q (rdR_run h7)
              simp only [den, hpp, Option.map_some, Option.some.injEq] at hy
              have hneq : r ≠ nm := fun e => by
                have := h.rdom r p hpp
                rw [e, hmem] at this
                cases this
              obtain ⟨hE, hR⟩ := h.newRow (nm := nm) (q := cutRow q (l.getD 0) (hh.getD q.n)) (p := ⟨false, p.k, bif Nat.beq p.cap (l.getD 0) then p.off else p.off + l.getD 0 * inf.size, hh.getD q.n - l.getD 0, p.cap - l.getD 0⟩) (W' := W) (rs' := (r, some { q with own := false }) :: S.rs) hmem
                (by
                  refine ⟨rfl, by have := hw.cap; show hh.getD q.n - l.getD 0 ≤ p.cap - l.getD 0; omega, fun e => (by cases e), ?_⟩
                  obtain ⟨cells, hc, _, hel⟩ := hw.mem
                  refine ⟨cells, hc, fun e => (by cases e), fun j hj => ?_⟩
                  have hj : j < hh.getD q.n - l.getD 0 := hj
                  obtain ⟨e1, e2⟩ := hel (l.getD 0 + j) (by omega)
                  refine ⟨e1, fun i hi => ?_⟩
                  have hi : i < q.sz := hi
                  have hne : Nat.beq p.cap (l.getD 0) = false := by
                    cases hbb : Nat.beq p.cap (l.getD 0) with
                    | false => rfl
                    | true => have := Nat.eq_of_beq_eq_true hbb; have := hw.cap; omega
                  show cells[(bif Nat.beq p.cap (l.getD 0) then p.off else p.off + l.getD 0 * inf.size) + (j * q.sz + i)]? = (q.el (l.getD 0 + j)).cells[i]?
                  rw [hne, ← e2 i hi, hsz, Nat.add_mul]
                  simp only [cond_false]
                  congr 1
                  omega)
                rfl rfl rfl (Nat.le_refl _)
                (fun r' x hx => by
                  rw [lookR_cons] at hx
                  by_cases e : r = r'
                  · subst e
                    rw [if_pos rfl] at hx
                    simp only [Option.some.injEq] at hx
                    exact ⟨q, rdR_run h7, .inr hx.symm⟩
                  · rw [if_neg e] at hx; exact ⟨x, hx, .inl rfl⟩)
                (fun k _ => .inl rfl) (h.rlt r p hpp) (fun e => (by cases e)) (fun b => h.rb r q p (rdR_run h7) hpp b)
                (fun r' x p' hx hp' hk => by
                  refine ⟨?_, rfl⟩
                  rw [lookR_cons] at hx
                  by_cases e : r = r'
                  · rw [if_pos e] at hx; simp only [Option.some.injEq] at hx; rw [← hx]
                  · rw [if_neg e] at hx
                    exact (h.ro r r' q x p p' (rdR_run h7) hx hpp hp' e hk.symm).2)
              have hlit : ∀ {v : Option Value} {n : Option Nat}, litNat v = some n → (v = none ∧ n = none) ∨ ∃ k j, v = some (.int k (.ofNat j)) ∧ n = some j := by
                intro v n hv
                unfold litNat at hv
                split at hv
                · simp only [Option.some.injEq] at hv; exact .inl ⟨rfl, hv.symm⟩
                · simp only [Option.some.injEq] at hv; exact .inr ⟨_, _, rfl, hv.symm⟩
                · cases hv
              have hbounds : (Instr.sliceBounds true p.n p.cap (lo.map a.eval) (hi.map a.eval) none).run P W = .ok (l.getD 0, hh.getD q.n, p.cap) W := by
                rw [← hvl, ← hvh]
                have hcap := hw.cap
                have hn := hw.n
                have sb : ∀ (k : IntKind) (j y : Nat) (c : BoundsCode), j ≤ y → (Instr.sliceBound (.int k (.ofNat j)) y c).run P W = .ok j W := by
                  intro k j y c hjy
                  have : (0 : Int) ≤ Int.ofNat j ∧ Int.ofNat j ≤ (y : Int) := ⟨by simp, by simp; omega⟩
                  simp only [Instr.sliceBound, asIntOf, Sem.run_bind, Sem.run_pure, Result.andThen_ok, if_pos this]
                  rfl
                rcases hlit hl with ⟨rfl, rfl⟩ | ⟨k1, j1, rfl, rfl⟩ <;> rcases hlit hhh with ⟨rfl, rfl⟩ | ⟨k2, j2, rfl, rfl⟩ <;>
                  simp only [Option.getD_some, Option.getD_none] at p1 p2 ⊢
                · simp only [Instr.sliceBounds, Sem.run_bind, Sem.run_pure, Result.andThen_ok, hn]
                · simp only [Instr.sliceBounds, Sem.run_bind, Sem.run_pure, Result.andThen_ok, sb k2 j2 p.cap _ (by omega), if_true]
                · simp only [Instr.sliceBounds, Sem.run_bind, Sem.run_pure, Result.andThen_ok, hn, Option.isSome_none, Bool.false_eq_true, if_false, sb k1 j1 q.n _ (by omega)]
                · simp only [Instr.sliceBounds, Sem.run_bind, Sem.run_pure, Result.andThen_ok, sb k2 j2 p.cap _ (by omega), Option.isSome_none, Bool.false_eq_true, if_false, if_true, sb k1 j1 j2 _ (by omega)]
              refine wpIn_value hF (by simp) (v := .slice (some ⟨p.k, bif Nat.beq p.cap (l.getD 0) then p.off else p.off + l.getD 0 * inf.size, none⟩) (hh.getD q.n - l.getD 0) (p.cap - l.getD 0)) (W' := W) ?_ (hK _ _ W hE hR (by simp [den]))
              simp only [execOp, ← hy, Instr.sliceAt, Instr.slice, Sem.run_bind, run_underlying hu, Result.andThen_ok, Sem.run_pure, Option.map_none, hbounds, sizeOf, typeInfo, run_program, hinf]
              cases hml : Nat.beq p.cap (l.getD 0) with
              | true => simp [Nat.eq_of_beq_eq_true hml]
              | false => simp [Nat.ne_of_beq_eq_false hml, addr_add]
            · cases h6
          · cases h6
        · cases h6
    · exact fb (by simp) (by simp) h2
  case sliceToArrayPointer t x =>
    obtain ⟨y, rd1, rd2, h1, h2⟩ := Rd.run_bind hr
    have hy := rdX_run h h1
    split at h2
    · rename_i b off len cap
      split at h2
      · rename_i nn e hu
        cases hle : Nat.ble nn len with
        | false => rw [hle] at h2; cases h2
        | true =>
          rw [hle] at h2
          obtain rfl := ret_run h2
          simp only [den, Option.map_eq_some_iff] at hy
          obtain ⟨kb, hkb, hy⟩ := hy
          refine wpIn_value hF (by simp) (v := .pointer (some ⟨kb, off, none⟩)) (W' := W) ?_ (hK β _ W (.refl _) h (by simp [den, adr, hkb]))
          have hle' : ¬ len < nn := by have := Nat.le_of_ble_eq_true hle; omega
          simp only [execOp, ← hy, Instr.arrayAt, Sem.run_bind, run_underlying hu, Result.andThen_ok, if_neg hle', Sem.run_pure]
      · cases h2
    · cases h2
  case buildSlice t len parts =>
    obtain ⟨ps, rd1, rd2, h1, h2⟩ := Rd.run_bind hr
    have hps := rdParts_run h h1
    obtain ⟨⟨e, cells⟩, rd3, rd4, h3, h4⟩ := Rd.run_bind h2
    have hc := rdP_run h3
    dsimp only at h4
    cases hb : Nat.blt nm gbase with
    | false => rw [hb] at h4; cases h4
    | true =>
      rw [hb] at h4
      simp only [cond_true, Rd.run, St.get] at h4
      cases hl : memN nm S.us with
      | true => simp [hl, Rd.run] at h4
      | false =>
        simp only [hl, cond_false] at h4
        have hpp : (parts.map fun (i, x) => (i, a.eval x)) = ps.toArray := by rw [hps]; cases parts; simp
        have plain : res = ⟨.sl nm 0 len len, [.u nm, .b nm (.parts (cells.toList.map .v)) e], []⟩ → Oper.wpIn F n P ⟨dst, .buildSlice t len parts, type, pos, after, guard⟩ a W K Q := by
          rintro rfl
          obtain ⟨β', hm, hnm, hR⟩ := h.new (c := .parts (cells.toList.map .v)) (cells := cells) (ty := e) (by simp [denCt, dens_map_v]) hl (by simpa [Nat.blt_eq] using hb)
          refine wpIn_value hF (by simp) (v := .slice (some ⟨W.heap.size, 0, none⟩) len len) (W' := W.alloc (.cells cells e)) ?_ (hK β' _ _ hm hR (by simp [den, hnm]))
          simp only [execOp, hpp, Sem.run_bind, run_buildSlice hc W, Result.andThen_ok, Sem.run_pure]
        generalize hgen : Rd.run _ S = q at h4
        cases q with
        | none => cases h4
        | some q =>
        obtain ⟨q1, q2⟩ := q
        simp only [Option.some.injEq, Prod.mk.injEq] at h4
        obtain ⟨rfl, _⟩ := h4
        split at hgen
        · split at hgen
          · rename_i i hi
            obtain ⟨el, rd5, rd6, h5, h6⟩ := Rd.run_bind hgen
            cases hck : (Nat.beq cells.size (len * i.size) && Nat.ble len 100000) with
            | false => rw [hck] at h6; cases h6
            | true =>
              rw [hck] at h6
              obtain rfl := ret_run h6
              simp only [Bool.and_eq_true] at hck
              have hcs := Nat.eq_of_beq_eq_true hck.1
              have hlen := Nat.le_of_ble_eq_true hck.2
              obtain ⟨_, hel⟩ := slEl_spec (rdP_run h5)
              have hnew : (W.alloc (.cells cells e)).heap[W.heap.size]? = some (.cells cells e) := heap_alloc_new _ _
              obtain ⟨hE, hR⟩ := h.newRow (nm := nm) (q := ⟨e, i.size, len, el, true⟩) (p := ⟨true, W.heap.size, 0, len, len⟩) (W' := W.alloc (.cells cells e)) (rs' := S.rs) hl
                ⟨rfl, Nat.le_refl _, fun _ => ⟨rfl, rfl, by simp only [maxLen]; omega⟩, cells, hnew, fun _ => hcs, fun j hj => by
                  obtain ⟨e1, e2⟩ := hel j hj
                  refine ⟨e1, fun x hx => ?_⟩
                  rw [← e2 x hx]
                  simp⟩
                rfl rfl rfl (by rw [World.size_alloc]; omega) (fun r x hx => ⟨x, hx, .inl rfl⟩) (fun k hk => .inl (Below.heap_alloc _ _ _ hk)) (by rw [World.size_alloc]; exact Nat.lt_succ_self _)
                (fun _ hlt => absurd hlt (Nat.lt_irrefl _)) (fun b hb' => absurd (h.lt b _ hb') (Nat.lt_irrefl _)) (fun r x p' _ hp' hk => absurd (h.rlt r p' hp') (by rw [hk]; exact Nat.lt_irrefl _))
              refine wpIn_value hF (by simp) (v := .slice (some ⟨W.heap.size, 0, none⟩) len len) (W' := W.alloc (.cells cells e)) ?_ (hK _ _ _ hE hR (by simp [den]))
              simp only [execOp, hpp, Sem.run_bind, run_buildSlice hc W, Result.andThen_ok, Sem.run_pure]
          · cases hgen
        · exact plain (ret_run hgen).symm
  case fieldAddr s x f =>
    obtain ⟨y, rd1, rd2, h1, h2⟩ := Rd.run_bind hr
    have hy := rdX_run h h1
    split at h2
    · rename_i b off
      split at h2
      · rename_i fs hu
        split at h2
        · rename_i fd hfd
          split at h2
          · rename_i inf hinf
            cases hb : Nat.beq inf.size 0 with
            | true => rw [hb] at h2; cases h2
            | false =>
              rw [hb] at h2
              obtain rfl := ret_run h2
              simp only [den, adr, Option.map_eq_some_iff] at hy
              obtain ⟨kb, hkb, hy⟩ := hy
              refine wpIn_value hF (by simp) (v := .pointer (some ⟨kb, off + fd.offset, none⟩)) (W' := W) ?_ (hK β _ W (.refl _) h (by simp [den, adr, hkb]))
              have hne : inf.size ≠ 0 := Nat.ne_of_beq_eq_false hb
              simp only [execOp, ← hy, Instr.fieldAt, Sem.run_bind, run_underlying hu, Result.andThen_ok, hfd, Instr.sureAddr, Sem.run_pure, fieldPlace, sizeOf, typeInfo, run_program, hinf, hne, if_false, addr_add]
          · cases h2
        · cases h2
      · cases h2
    · rename_i r j off sz
      split at h2
      · rename_i fs hu
        split at h2
        · rename_i fd hfd
          split at h2
          · rename_i inf hinf
            cases hb : Nat.beq inf.size 0 with
            | true => rw [hb] at h2; cases h2
            | false =>
              rw [hb] at h2
              obtain rfl := ret_run h2
              simp only [den, Option.map_eq_some_iff] at hy
              obtain ⟨kb, hkb, hy⟩ := hy
              refine wpIn_value hF (by simp) (v := .pointer (some ⟨kb.k, kb.off + (j * sz + (off + fd.offset)), none⟩)) (W' := W) ?_ (hK β _ W (.refl _) h (by simp [den, hkb]))
              have hne : inf.size ≠ 0 := Nat.ne_of_beq_eq_false hb
              simp only [execOp, ← hy, Instr.fieldAt, Sem.run_bind, run_underlying hu, Result.andThen_ok, hfd, Instr.sureAddr, Sem.run_pure, fieldPlace, sizeOf, typeInfo, run_program, hinf, hne, if_false, addr_add, Nat.add_assoc]
          · cases h2
        · cases h2
      · cases h2
    · cases h2
  case extract x i =>
    obtain ⟨y, rd1, rd2, h1, h2⟩ := Rd.run_bind hr
    have hy := rdX_run h h1
    split at h2
    · rename_i l
      obtain ⟨z, rd3, rd4, h3, h4⟩ := Rd.run_bind h2
      obtain rfl := ret_run h4
      have hz := rdP_run h3
      simp only [den, Option.map_eq_some_iff, cond_true] at hy
      obtain ⟨vs, hvs, hy⟩ := hy
      have hds : dens β (l.map TV.sv) = some vs := by rw [dens_sv]; exact hvs
      obtain ⟨v, hv, hx⟩ := dens_get (i := i) (x := z.sv) hds (by simp [hz])
      refine wpIn_value hF (by simp) (v := v) (W' := W) ?_ (hK β v W (.refl _) h hv)
      simp [execOp, ← hy, Instr.extract, hx]
    · exact fb (by simp) (by simp) h2
  case makeFunc fn first caps =>
    cases fn with
    | func f =>
      simp only [vop] at hr
      split at hr
      · rename_i hfirst
        obtain ⟨l, rd1, rd2, h1, h2⟩ := Rd.run_bind hr
        obtain rfl := ret_run h2
        have hc := capsOf_run h h1
        refine wpIn_value hF (by simp) (v := .func (.func f) (first.map a.eval) (caps.map a.eval)) (W' := W) rfl (hK β _ W (.refl _) h ?_)
        have hf : first = #[] := by cases first; simpa using hfirst
        simp only [den, hc, hf, List.map_toArray]
        congr 2
        cases caps
        simp
      · cases hr
    | method _ => simp only [vop] at hr; exact fb (by simp) (by simp) hr
    | methodOf _ _ => simp only [vop] at hr; exact fb (by simp) (by simp) hr
    | via _ _ _ _ => simp only [vop] at hr; exact fb (by simp) (by simp) hr
    | yield _ => simp only [vop] at hr; exact fb (by simp) (by simp) hr
  case binOp bop t x y yt =>
    obtain ⟨u, rd1, rd2, h1, h2⟩ := Rd.run_bind hr
    obtain ⟨v, rd3, rd4, h3, h4⟩ := Rd.run_bind h2
    obtain ⟨z, hz, hw, hrun⟩ := binV_run (rdP_run h4) hp
    have hu := rdV_run h h1
    have hv := rdV_run h h3
    refine wpIn_value hF (by simp) (v := z) (W' := W) ?_ (hK β z W (.refl _) (by rw [hw]; exact h) (by rw [hz]; rfl))
    have := hrun W
    simp only [execOp, hu, hv, Sem.run_bind, Sem.run_pure] at this ⊢
    rw [this]
    rfl
  case call c =>
    obtain ⟨callee, args, argTypes⟩ := c
    cases callee with
    | builtin b =>
      have hr' : (match b, args.toList, argTypes.toList with
        | .len, [x], [t] => bif isSliceT P t then (rdX x).bind fun
            | .sl _ _ n _ => .ret (Res.mk (.v (.int .i64 n)) [] [])
            | .row r => (rdR r).bind fun q => .ret ⟨.v (.int .i64 q.n), [], []⟩
            | _ => fallback P ⟨dst, .call ⟨.builtin b, args, argTypes⟩, type, pos, after, guard⟩
          else fallback P ⟨dst, .call ⟨.builtin b, args, argTypes⟩, type, pos, after, guard⟩
        | .append, [x, y], [t, t'] => bif Nat.beq t t' then appRd P x y t nm else .stop
        | _, _, _ => fallback P ⟨dst, .call ⟨.builtin b, args, argTypes⟩, type, pos, after, guard⟩).run S = some (res, rd) := hr
      split at hr'
      · rename_i x t hargs htys
        cases hs : isSliceT P t with
        | false => rw [hs] at hr'; exact fb (by simp) (by simp) hr'
        | true =>
          rw [hs] at hr'
          obtain ⟨y, rd1, rd2, h1, h2⟩ := Rd.run_bind hr'
          have hy := rdX_run h h1
          split at h2
          · rename_i b off nn cap
            obtain rfl := ret_run h2
            simp only [den, Option.map_eq_some_iff] at hy
            obtain ⟨kb, hkb, hy⟩ := hy
            refine wpIn_value hF (by simp) (v := .int .i64 nn) (W' := W) ?_ (hK β _ W (.refl _) h rfl)
            have ha : args = #[x] := by cases args; simpa using hargs
            have ht : argTypes = #[t] := by cases argTypes; simpa using htys
            subst ha
            subst ht
            unfold isSliceT at hs
            split at hs
            · rename_i e hu
              simp only [execOp, resolve, Sem.run_bind, Sem.run_pure, Result.andThen_ok, invoke, builtin, Builtin.len_, List.map_toArray, List.map_cons, List.map_nil, ← hy]
              simp [run_underlying hu, goInt]
            · cases hs
          · rename_i r
            obtain ⟨q, rd3, rd4, h3, h4⟩ := Rd.run_bind h2
            obtain rfl := ret_run h4
            obtain ⟨p, hpp, hw⟩ := h.rs r q (rdR_run h3)
            simp only [den, hpp, Option.map_some, Option.some.injEq] at hy
            refine wpIn_value hF (by simp) (v := .int .i64 q.n) (W' := W) ?_ (hK β _ W (.refl _) h rfl)
            have ha : args = #[x] := by cases args; simpa using hargs
            have ht : argTypes = #[t] := by cases argTypes; simpa using htys
            subst ha
            subst ht
            unfold isSliceT at hs
            split at hs
            · rename_i e hu
              simp only [execOp, resolve, Sem.run_bind, Sem.run_pure, Result.andThen_ok, invoke, builtin, Builtin.len_, List.map_toArray, List.map_cons, List.map_nil, ← hy]
              simp [run_underlying hu, goInt, hw.n]
            · cases hs
          · exact fb (by simp) (by simp) h2
      · rename_i x y t t' hargs htys
        cases htt : Nat.beq t t' with
        | false => rw [htt] at hr'; cases hr'
        | true =>
          rw [htt] at hr'
          have htt := Nat.eq_of_beq_eq_true htt
          subst htt
          have ha : args = #[x, y] := by cases args; simpa using hargs
          have ht : argTypes = #[t, t] := by cases argTypes; simpa using htys
          subst ha
          subst ht
          obtain ⟨β', v, W', hE, hR, hv, hrun⟩ := appRd_run type h hr' hp
          refine wpIn_value hF (by simp) (v := v) (W' := W') ?_ (hK β' v W' hE hR hv)
          simp only [execOp, resolve, Sem.run_bind, Sem.run_pure, Result.andThen_ok, invoke, builtin, List.map_toArray, List.map_cons, List.map_nil, hrun]
      · exact fb (by simp) (by simp) hr'
    | invoke _ _ => cases hr
    | value f =>
      obtain ⟨y, rd1, rd2, h1, h2⟩ := Rd.run_bind hr
      have hy := rdX_run h h1
      split at h2
      · rename_i g
        have hev : a.eval f = .func (.func g) #[] #[] := by simpa [den, adrs] using hy.symm
        split at h2
        rotate_left
        · obtain ⟨ct, rd5, rd6, h5, h6⟩ := Rd.run_bind h2
          obtain ⟨ds, rd3, rd4, h3, h4⟩ := Rd.run_bind h6
          obtain rfl := ret_run h4
          have hf := findD_f (rdP_run h5)
          have hs := ct.sound ds (hp _ (by simp)) F n ⟨dst, .call ⟨.value f, args, argTypes⟩, type, pos, after, guard⟩ a W K Q _ hF.fn hF.depth hF.alive h.lzW (rdDs_run h h3) (fun W' hb => hK β _ W' (.refl _) (h.below hb) rfl)
          refine ⟨fun f _ => by rw [hF.fn]; trivial, ?_⟩
          rw [Oper.semAt_eq _ _ _ (by simp)]
          have hargs : (args.map a.eval) = (args.toList.map a.eval).toArray := by cases args; simp
          have he : execOp a.eval ⟨dst, .call ⟨.value f, args, argTypes⟩, type, pos, after, guard⟩ = callFunc g (args.toList.map a.eval).toArray := by
            simp only [execOp, resolve, hev, Deferred.ofValue, hargs]
            simp only [bind, Sem.bind, pure, invoke, Array.empty_append, Array.append_empty]
          rw [he, ← hf]
          exact hs
        rename_i ct hfc
        obtain ⟨vs, rd3, rd4, h3, h4⟩ := Rd.run_bind h2
        obtain rfl := ret_run h4
        have hf := findC_f hfc
        have hvs := rdVs_run h h3
        have hs := ct.sound vs (hp _ (by simp)) F n ⟨dst, .call ⟨.value f, args, argTypes⟩, type, pos, after, guard⟩ a W K Q hF.fn hF.depth hF.alive h.lzW (fun W' hb => hK β _ W' (.refl _) (h.below hb) rfl)
        refine ⟨fun f _ => by rw [hF.fn]; trivial, ?_⟩
        rw [Oper.semAt_eq _ _ _ (by simp)]
        have hargs : (args.map a.eval) = vs.toArray := by rw [hvs]; cases args; simp
        have he : execOp a.eval ⟨dst, .call ⟨.value f, args, argTypes⟩, type, pos, after, guard⟩ = callFunc g vs.toArray := by
          simp only [execOp, resolve, hev, Deferred.ofValue, hargs]
          simp only [bind, Sem.bind, pure, invoke, Array.empty_append, Array.append_empty]
        rw [he, ← hf]
        exact hs
      · cases h2
  case index t x ix =>
    simp only [vop] at hr
    split at hr
    · rename_i s ix' hix
      unfold strIx at hix
      split at hix
      · rename_i s'
        split at hix
        · rename_i hu
          cases hc : isConst ix with
          | true => rw [hc] at hix; cases hix
          | false =>
            rw [hc] at hix
            simp only [cond_false, Option.some.injEq, Prod.mk.injEq] at hix
            obtain ⟨rfl, rfl⟩ := hix
            obtain ⟨y, rd1, rd2, h1, h2⟩ := Rd.run_bind hr
            have hy := rdV_run h h1
            split at h2
            · rename_i k i
              obtain rfl := ret_run h2
              have hi : 0 ≤ i ∧ i < (s'.size : Int) := hp _ (by simp)
              refine wpIn_value hF (by simp) (v := .int .u8 (strAt s' i)) (W' := W) ?_ (hK β _ W (.refl _) h rfl)
              have hlt : i.toNat < s'.size := by omega
              have hb : s'[i.toNat]? = some (s'[i.toNat]'hlt) := by simp [hlt]
              have hs : strAt s' i = ((s'[i.toNat]'hlt).toNat : Int) := by unfold strAt; rw [hb]; rfl
              have hx : a.eval (.const (.string s')) = .string s' := rfl
              rw [hs]
              simp only [execOp, hx, hy, Instr.index, asIntOf, Sem.run_bind, Sem.run_pure, Result.andThen_ok, run_underlying hu, hi.1, if_true, hb]
            · cases h2
        · cases hix
      · cases hix
    · exact fb (by simp) (by simp) hr
  case select _ _ => cases hr
  case defer c =>
    have hr' : (fallback P ⟨dst, .defer c, type, pos, after, guard⟩).run S = some (res, rd) := hr
    obtain ⟨v, hv, rfl⟩ := fallback_run h (by simp) hr'
    simp only [execOp, Sem.run_bind] at hv
    generalize (resolve a.eval c type).run P W = q at hv
    cases q with
    | ok d w => simp [Result.andThen] at hv
    | halt x w => simp [Result.andThen] at hv
  all_goals exact fb (by simp) (by simp) hr
end
end Go.Sx
