/-
  A symbolic executor for the model's code, second part: one operation, and why it is right.
-/
import Derived.Test.YtjfcndiodbaejaaDoorSxA
namespace Go.Sx
open Go Go.RowKit

structure Res where
  x : SV
  wr : List Wr
  ps : List Prop

inductive Dec where
  | lit
  | b (d : Bool)
  | n (i : Nat)

def ctOf : SV → Ct
  | .v x => .whole x
  | .ptr b o => .parts [.ptr b o]
  | .fn f c => .parts [.fn f c]
  | .yld l => .parts [.yld l]
  | .sl b o n c => .parts [.sl b o n c]
  | .row r => .parts [.row r]
  | .rp r j o sz => .parts [.rp r j o sz]
  | .mix true l => .parts [.mix true l]
  | .mix false l => .parts (l.map TV.sv)

def plainVs : List SV → Option (List Value)
  | [] => some []
  | .v x :: r => match plainVs r with
    | some l => some (x :: l)
    | none => none
  | _ => none

def ctList : Ct → List SV
  | .whole x => x.cells.toList.map .v
  | .parts l => l

def isAggT (P : Program) (t : TypeId) : Option Bool :=
  match P.underlying t with
  | some (.struct _) => some true
  | some (.array _ _) => some true
  | some _ => some false
  | none => none

def isWhole (x : Value) (n : Nat) : Bool :=
  match x with
  | .agg cs => Nat.beq cs.size n
  | _ => false

def tvs : List SV → Option (List TV)
  | [] => some []
  | .v x :: r => match tvs r with
    | some l => some (.v x :: l)
    | none => none
  | .row x :: r => match tvs r with
    | some l => some (.row x :: l)
    | none => none
  | _ => none

def loadGen (c : Ct) (off n : Nat) : Option SV :=
  match plainVs (((ctList c).drop off).take n) with
  | some l => bif Nat.beq l.length n then some (.v (.agg l.toArray)) else none
  | none => match tvs (((ctList c).drop off).take n) with
    | some l => bif Nat.beq l.length n then some (.mix false l) else none
    | none => none

def tvOne : List TV → Bool
  | [] => true
  | .v x :: r => Value.oneCell' x && tvOne r
  | .row _ :: r => tvOne r

def loadC (P : Program) (t : TypeId) (c : Ct) (off : Nat) : Option SV :=
  match isAggT P t with
  | some true => match P.info? t with
    | some i =>
      match c, off with
      | .whole x, 0 => bif isWhole x i.size then some (.v x) else loadGen c off i.size
      | _, _ => loadGen c off i.size
    | none => none
  | some false => (ctList c)[off]?
  | none => none

def splice (c : Ct) (off : Nat) (l' : List SV) : Option Ct :=
  bif Nat.ble (off + l'.length) (ctList c).length then some (.parts ((ctList c).take off ++ l' ++ (ctList c).drop (off + l'.length))) else none

def storeC (P : Program) (t : TypeId) (c : Ct) (off : Nat) (y : SV) : Option Ct :=
  match P.info? t with
  | none => none
  | some i =>
    match y with
    | .v z => bif Nat.beq z.cells.size i.size && z.cells.toList.all Value.oneCell' then
        match off with
        | 0 => bif Nat.beq (ctList c).length i.size then some (.whole z) else splice c 0 (z.cells.toList.map .v)
        | _ => splice c off (z.cells.toList.map .v)
      else none
    | .mix false l => bif Nat.beq l.length i.size && tvOne l then splice c off (l.map TV.sv) else none
    | .mix true _ => none
    | y => bif Nat.beq i.size 1 then splice c off [y] else none

theorem dens_map_v (β : Ren) (l : List Value) : dens β (l.map .v) = some l := by
  induction l with
  | nil => rfl
  | cons x r ih => simp [dens, den, ih]

theorem dens_ctList {β : Ren} {c : Ct} {cells : Array Value} (h : denCt β c = some cells) : dens β (ctList c) = some cells.toList := by
  cases c with
  | whole x => simp only [denCt, Option.some.injEq] at h; subst h; exact dens_map_v β _
  | parts l =>
    simp only [denCt] at h
    simp only [ctList]
    split at h
    · rename_i vs hv; simp only [Option.some.injEq] at h; subst h; simpa using hv
    · cases h

theorem dens_length {β : Ren} : ∀ {l : List SV} {vs : List Value}, dens β l = some vs → l.length = vs.length
  | [], vs, h => by simp only [dens, Option.some.injEq] at h; subst h; rfl
  | x :: r, vs, h => by
    simp only [dens] at h
    split at h
    · rename_i v l hv hl; simp only [Option.some.injEq] at h; subst h; simp [dens_length hl]
    · cases h

theorem dens_get {β : Ren} : ∀ {l : List SV} {vs : List Value} {i : Nat} {x : SV}, dens β l = some vs → l[i]? = some x → ∃ v, den β x = some v ∧ vs[i]? = some v
  | [], vs, i, x, _, hx => by simp at hx
  | y :: r, vs, i, x, h, hx => by
    simp only [dens] at h
    split at h
    · rename_i v l hv hl
      simp only [Option.some.injEq] at h
      subst h
      cases i with
      | zero => simp only [List.getElem?_cons_zero, Option.some.injEq] at hx; subst hx; exact ⟨v, hv, rfl⟩
      | succ i => simp only [List.getElem?_cons_succ] at hx; simpa using dens_get hl hx
    · cases h

theorem dens_drop {β : Ren} : ∀ {l : List SV} {vs : List Value} (n : Nat), dens β l = some vs → dens β (l.drop n) = some (vs.drop n)
  | [], vs, n, h => by simp only [dens, Option.some.injEq] at h; subst h; simp [dens]
  | x :: r, vs, 0, h => by simpa using h
  | x :: r, vs, n + 1, h => by
    simp only [dens] at h
    split at h
    · rename_i v l hv hl; simp only [Option.some.injEq] at h; subst h; simpa using dens_drop n hl
    · cases h

theorem dens_take {β : Ren} : ∀ {l : List SV} {vs : List Value} (n : Nat), dens β l = some vs → dens β (l.take n) = some (vs.take n)
  | [], vs, n, h => by simp only [dens, Option.some.injEq] at h; subst h; simp [dens]
  | x :: r, vs, 0, h => by simp [dens]
  | x :: r, vs, n + 1, h => by
    simp only [dens] at h
    split at h
    · rename_i v l hv hl; simp only [Option.some.injEq] at h; subst h; simp [dens, hv, dens_take n hl]
    · cases h

theorem dens_append {β : Ren} : ∀ {l l' : List SV} {vs vs' : List Value}, dens β l = some vs → dens β l' = some vs' → dens β (l ++ l') = some (vs ++ vs')
  | [], l', vs, vs', h, h' => by simp only [dens, Option.some.injEq] at h; subst h; simpa using h'
  | x :: r, l', vs, vs', h, h' => by
    simp only [dens] at h
    split at h
    · rename_i v l hv hl; simp only [Option.some.injEq] at h; subst h; simp [dens, hv, dens_append hl h']
    · cases h

theorem den_sv {β : Ren} (x : TV) : den β x.sv = denT β x := by cases x <;> rfl
theorem dens_sv {β : Ren} : ∀ (l : List TV), dens β (l.map TV.sv) = denTs β l
  | [] => rfl
  | x :: r => by simp only [List.map_cons, dens, denTs, den_sv, dens_sv r]
theorem denTs_length {β : Ren} : ∀ {l : List TV} {vs : List Value}, denTs β l = some vs → l.length = vs.length
  | [], vs, h => by simp only [denTs, Option.some.injEq] at h; subst h; rfl
  | x :: r, vs, h => by
    simp only [denTs] at h
    split at h
    · rename_i v l hv hl; simp only [Option.some.injEq] at h; subst h; simp [denTs_length hl]
    · cases h
theorem dens_tvs {β : Ren} : ∀ {l : List SV} {xs : List TV}, tvs l = some xs → l = xs.map TV.sv
  | [], xs, h => by simp only [tvs, Option.some.injEq] at h; subst h; rfl
  | .v x :: r, xs, h => by
    simp only [tvs] at h
    split at h
    · rename_i l hl; simp only [Option.some.injEq] at h; subst h; simp [TV.sv, dens_tvs (β := β) hl]
    · cases h
  | .row x :: r, xs, h => by
    simp only [tvs] at h
    split at h
    · rename_i l hl; simp only [Option.some.injEq] at h; subst h; simp [TV.sv, dens_tvs (β := β) hl]
    · cases h
  | .ptr _ _ :: r, xs, h => by simp [tvs] at h
  | .fn _ _ :: r, xs, h => by simp [tvs] at h
  | .yld _ :: r, xs, h => by simp [tvs] at h
  | .sl _ _ _ _ :: r, xs, h => by simp [tvs] at h
  | .rp _ _ _ _ :: r, xs, h => by simp [tvs] at h
  | .mix _ _ :: r, xs, h => by simp [tvs] at h
theorem tvOne_spec {β : Ren} : ∀ {l : List TV} {vs : List Value}, tvOne l = true → denTs β l = some vs → ∀ x ∈ vs, x.oneCell' = true
  | [], vs, _, h => by simp only [denTs, Option.some.injEq] at h; subst h; simp
  | .v x :: r, vs, ho, h => by
    simp only [tvOne, Bool.and_eq_true] at ho
    simp only [denTs, denT] at h
    split at h
    · rename_i v l hv hl
      simp only [Option.some.injEq] at h hv; subst h; subst hv
      intro y hy
      rcases List.mem_cons.1 hy with rfl | hy
      · exact ho.1
      · exact tvOne_spec ho.2 hl y hy
    · cases h
  | .row x :: r, vs, ho, h => by
    simp only [tvOne] at ho
    simp only [denTs, denT] at h
    split at h
    · rename_i v l hv hl
      simp only [Option.some.injEq] at h; subst h
      simp only [Option.map_eq_some_iff] at hv
      obtain ⟨p, _, rfl⟩ := hv
      intro y hy
      rcases List.mem_cons.1 hy with rfl | hy
      · rfl
      · exact tvOne_spec ho hl y hy
    · cases h

theorem dens_plain {β : Ren} : ∀ {l : List SV} {xs vs : List Value}, plainVs l = some xs → dens β l = some vs → vs = xs
  | [], xs, vs, h, h' => by simp only [plainVs, dens, Option.some.injEq] at h h'; subst h; subst h'; rfl
  | .v x :: r, xs, vs, h, h' => by
    simp only [plainVs] at h
    split at h
    · rename_i l hl
      simp only [Option.some.injEq] at h
      subst h
      simp only [dens, den] at h'
      split at h'
      · rename_i v l' hv hl'
        simp only [Option.some.injEq] at h' hv
        subst h' hv
        rw [dens_plain hl hl']
      · cases h'
    · cases h
  | .ptr _ _ :: r, xs, vs, h, _ => by simp [plainVs] at h
  | .fn _ _ :: r, xs, vs, h, _ => by simp [plainVs] at h
  | .yld _ :: r, xs, vs, h, _ => by simp [plainVs] at h
  | .sl _ _ _ _ :: r, xs, vs, h, _ => by simp [plainVs] at h
  | .row _ :: r, xs, vs, h, _ => by simp [plainVs] at h
  | .rp _ _ _ _ :: r, xs, vs, h, _ => by simp [plainVs] at h
  | .mix _ _ :: r, xs, vs, h, _ => by simp [plainVs] at h

/-! ### Reading -/
theorem addr_add (k off j : Nat) : (⟨k, off, none⟩ : Addr).add j = ⟨k, off + j, none⟩ := by unfold Addr.add; split <;> simp_all

section
variable {P : Program} {β : Ren} {W : World}

theorem cell_of {k : Nat} {cells : Array Value} {ty : TypeId} (hk : W.heap[k]? = some (.cells cells ty)) (j : Nat) : W.cell? ⟨k, j, none⟩ = cells[j]? := by
  simp [World.cell?, hk]

theorem isAggT_run {t : TypeId} {b : Bool} (h : isAggT P t = some b) : (isAgg t).run P W = .ok b W := by
  unfold isAggT at h
  unfold isAgg
  split at h
  · rename_i hu; simp only [Option.some.injEq] at h; subst h; simp [run_underlying hu]
  · rename_i hu; simp only [Option.some.injEq] at h; subst h; simp [run_underlying hu]
  · rename_i d h1 h2 hu
    simp only [Option.some.injEq] at h; subst h
    simp only [Sem.run_bind, run_underlying hu, Result.andThen_ok]
    rfl
  · cases h

theorem loadC_run {t : TypeId} {c : Ct} {off k : Nat} {y : SV} {cells : Array Value} {ty : TypeId} (hc : denCt β c = some cells) (hk : W.heap[k]? = some (.cells cells ty))
    (h : loadC P t c off = some y) : ∃ v, den β y = some v ∧ (loadVar t ⟨k, off, none⟩).run P W = .ok v W := by
  unfold loadC at h
  have hl := dens_ctList hc
  split at h
  · rename_i hagg
    split at h
    · rename_i i hi
      -- the general way
      have gen : loadGen c off i.size = some y → ∃ v, den β y = some v ∧ (loadVar t ⟨k, off, none⟩).run P W = .ok v W := by
        intro h
        unfold loadGen at h
        split at h
        · rename_i l hp
          cases hb : Nat.beq l.length i.size with
          | false => rw [hb] at h; cases h
          | true =>
            rw [hb] at h
            simp only [cond_true, Option.some.injEq] at h
            subst h
            have hlen : l.length = i.size := Nat.eq_of_beq_eq_true hb
            have hd := dens_plain hp (dens_take i.size (dens_drop off hl))
            refine ⟨_, rfl, ?_⟩
            have hload : (loadCells ⟨k, off, none⟩ l.length).run P W = .ok l.toArray W := by
              refine run_loadCells_list (P := P) W ⟨k, off, none⟩ l (fun j v hv => ?_)
              rw [addr_add, cell_of hk]
              rw [← hd] at hv
              rw [List.getElem?_take] at hv
              split at hv
              · rw [List.getElem?_drop] at hv; simpa using hv
              · cases hv
            rw [hlen] at hload
            simp only [loadVar, Sem.run_bind, isAggT_run hagg, Result.andThen_ok, if_true]
            simp [sizeOf, typeInfo, hi, hload]
        · split at h
          · rename_i l hp
            cases hb : Nat.beq l.length i.size with
            | false => rw [hb] at h; cases h
            | true =>
              rw [hb] at h
              simp only [cond_true, Option.some.injEq] at h
              subst h
              have hlen : l.length = i.size := Nat.eq_of_beq_eq_true hb
              have hd := dens_take i.size (dens_drop off hl)
              rw [dens_tvs (β := β) hp, dens_sv] at hd
              refine ⟨.agg ((cells.toList.drop off).take i.size).toArray, by simp only [den, hd, Option.map_some, cond_false], ?_⟩
              have hlen2 := denTs_length hd
              have hload : (loadCells ⟨k, off, none⟩ ((cells.toList.drop off).take i.size).length).run P W = .ok ((cells.toList.drop off).take i.size).toArray W := by
                refine run_loadCells_list (P := P) W ⟨k, off, none⟩ _ (fun j v hv => ?_)
                rw [addr_add, cell_of hk]
                rw [List.getElem?_take] at hv
                split at hv
                · rw [List.getElem?_drop] at hv; simpa using hv
                · cases hv
              rw [← hlen2, hlen] at hload
              simp only [loadVar, Sem.run_bind, isAggT_run hagg, Result.andThen_ok, if_true]
              simp only [sizeOf, typeInfo, Sem.run_bind, run_program, Result.andThen_ok, hi, Sem.run_pure, hload]
          · cases h
      split at h
      · rename_i x
        cases hw : isWhole x i.size with
        | true =>
          rw [hw] at h
          simp only [cond_true, Option.some.injEq] at h
          subst h
          refine ⟨x, rfl, ?_⟩
          unfold isWhole at hw
          split at hw
          · rename_i cs
            have hsz : cs.size = i.size := Nat.eq_of_beq_eq_true hw
            simp only [denCt, Option.some.injEq, Value.cells] at hc
            subst hc
            have hload : (loadCells ⟨k, 0, none⟩ cs.toList.length).run P W = .ok cs.toList.toArray W := by
              refine run_loadCells_list (P := P) W ⟨k, 0, none⟩ cs.toList (fun j v hv => ?_)
              rw [addr_add, cell_of hk]
              simpa using hv
            simp only [Array.length_toList, hsz, Array.toArray_toList] at hload
            simp only [loadVar, Sem.run_bind, isAggT_run hagg, Result.andThen_ok, if_true]
            simp [sizeOf, typeInfo, hi, hload]
          · cases hw
        | false =>
          rw [hw] at h
          exact gen h
      · exact gen h
    · cases h
  · rename_i hagg
    obtain ⟨v, hv, hx⟩ := dens_get hl h
    refine ⟨v, hv, ?_⟩
    simp only [loadVar, Sem.run_bind, isAggT_run hagg, Result.andThen_ok]
    have hcell : W.cell? ⟨k, off, none⟩ = some v := by rw [cell_of hk]; simpa using hx
    simp [load, Sem.run, hcell]
  · cases h

theorem splice_den {c c' : Ct} {off : Nat} {l' : List SV} {cells : Array Value} {vs : List Value} (hc : denCt β c = some cells) (hl' : dens β l' = some vs) (h : splice c off l' = some c') :
    off + vs.length ≤ cells.size ∧ denCt β c' = some (cells.toList.take off ++ vs ++ cells.toList.drop (off + vs.length)).toArray := by
  unfold splice at h
  have hl := dens_ctList hc
  have e1 := dens_length hl
  have e2 := dens_length hl'
  cases hb : Nat.ble (off + l'.length) (ctList c).length with
  | false => rw [hb] at h; cases h
  | true =>
    rw [hb] at h
    simp only [cond_true, Option.some.injEq] at h
    subst h
    have := Nat.le_of_ble_eq_true hb
    refine ⟨by rw [← e2]; simpa [e1] using this, ?_⟩
    simp only [denCt]
    rw [dens_append (dens_append (dens_take off hl) hl') (dens_drop (off + l'.length) hl), e2]

theorem storeC_run {t : TypeId} {c c' : Ct} {off k : Nat} {y : SV} {v : Value} {cells : Array Value} {ty : TypeId} (hc : denCt β c = some cells) (hy : den β y = some v)
    (hk : W.heap[k]? = some (.cells cells ty)) (h : storeC P t c off y = some c') :
    ∃ cells', denCt β c' = some cells' ∧ (storeVar t ⟨k, off, none⟩ v).run P W = .ok () (W.setRow k cells') := by
  unfold storeC at h
  have hl := dens_ctList hc
  split at h
  · cases h
  · rename_i i hi
    have store : ∀ vs : List Value, v.cells.toList = vs → vs.length = i.size → (∀ x ∈ vs, x.oneCell' = true) → off + vs.length ≤ cells.size →
        (storeVar t ⟨k, off, none⟩ v).run P W = .ok () (W.setRow k (cells.toList.take off ++ vs ++ cells.toList.drop (off + vs.length)).toArray) := by
      intro vs hvs hn h1 hle
      have hs := run_storeCells_at (P := P) k off ty vs 0 cells W hk (by simpa using hle) h1
      have hsz : v.cells.size = i.size := by rw [← hn, ← hvs]; simp
      simp only [Nat.add_zero] at hs
      simp only [storeVar, sizeOf, typeInfo, Sem.run_bind, run_program, Result.andThen_ok, hi, Sem.run_pure, hsz, ne_eq, not_true_eq_false, if_false, hvs, hs]
    split at h
    · rename_i z
      simp only [den, Option.some.injEq] at hy
      subst hy
      cases hb : (Nat.beq z.cells.size i.size && z.cells.toList.all Value.oneCell') with
      | false => rw [hb] at h; cases h
      | true =>
        rw [hb] at h
        simp only [cond_true] at h
        simp only [Bool.and_eq_true] at hb
        have hn : z.cells.size = i.size := Nat.eq_of_beq_eq_true hb.1
        have h1 : ∀ x ∈ z.cells.toList, x.oneCell' = true := List.all_eq_true.1 hb.2
        have spl : ∀ c', splice c off (z.cells.toList.map .v) = some c' → ∃ cells', denCt β c' = some cells' ∧ (storeVar t ⟨k, off, none⟩ z).run P W = .ok () (W.setRow k cells') := by
          intro c' h
          obtain ⟨hle, hd⟩ := splice_den hc (dens_map_v β _) h
          exact ⟨_, hd, store _ rfl (by simpa using hn) h1 hle⟩
        split at h
        · cases hb2 : Nat.beq (ctList c).length i.size with
          | true =>
            rw [hb2] at h
            simp only [cond_true, Option.some.injEq] at h
            subst h
            have hn2 : (ctList c).length = i.size := Nat.eq_of_beq_eq_true hb2
            have e1 := dens_length hl
            simp only [Array.length_toList] at e1
            have := store z.cells.toList rfl (by simpa using hn) h1 (by simp; omega)
            refine ⟨z.cells, rfl, ?_⟩
            rw [this]
            congr 2
            have hdrop : cells.toList.drop (0 + z.cells.toList.length) = [] := by apply List.drop_of_length_le; simp; omega
            rw [hdrop]
            simp
          | false => rw [hb2] at h; exact spl c' h
        · exact spl c' h
    · rename_i l
      simp only [den, Option.map_eq_some_iff, cond_false] at hy
      obtain ⟨vs, hvs, rfl⟩ := hy
      cases hb : (Nat.beq l.length i.size && tvOne l) with
      | false => rw [hb] at h; cases h
      | true =>
        rw [hb] at h
        simp only [cond_true] at h
        simp only [Bool.and_eq_true] at hb
        have hn := Nat.eq_of_beq_eq_true hb.1
        obtain ⟨hle, hd⟩ := splice_den (vs := vs) hc (by rw [dens_sv]; exact hvs) h
        exact ⟨_, hd, store vs (by simp [Value.cells]) (by rw [← denTs_length hvs, hn]) (tvOne_spec hb.2 hvs) hle⟩
    · cases h
    · rename_i hnv hnm hnt
      cases hb : Nat.beq i.size 1 with
      | false => rw [hb] at h; cases h
      | true =>
        rw [hb] at h
        have hn : i.size = 1 := Nat.eq_of_beq_eq_true hb
        have hone : v.cells = #[v] ∧ v.oneCell' = true := by
          cases y with
          | v z => exact absurd rfl (hnv z)
          | ptr b o =>
            simp only [den, adr, Option.map_eq_some_iff] at hy
            obtain ⟨k', _, rfl⟩ := hy
            exact ⟨rfl, rfl⟩
          | fn f cp =>
            simp only [den] at hy
            split at hy
            · simp only [Option.some.injEq] at hy; subst hy; exact ⟨rfl, rfl⟩
            · cases hy
          | yld l =>
            simp only [den, Option.map_eq_some_iff] at hy
            obtain ⟨k', _, rfl⟩ := hy
            exact ⟨rfl, rfl⟩
          | sl b o n c =>
            simp only [den, Option.map_eq_some_iff] at hy
            obtain ⟨k', _, rfl⟩ := hy
            exact ⟨rfl, rfl⟩
          | row r =>
            simp only [den, Option.map_eq_some_iff] at hy
            obtain ⟨k', _, rfl⟩ := hy
            exact ⟨rfl, rfl⟩
          | rp r j o sz =>
            simp only [den, Option.map_eq_some_iff] at hy
            obtain ⟨k', _, rfl⟩ := hy
            exact ⟨rfl, rfl⟩
          | mix t l =>
            cases t with
            | false => exact absurd rfl (hnm l)
            | true => exact absurd rfl (hnt l)
        obtain ⟨hle, hd⟩ := splice_den (vs := [v]) hc (by simp [dens, hy]) h
        exact ⟨_, hd, store [v] (by rw [hone.1]) (by simp [hn]) (by simpa using hone.2) hle⟩
end

end Go.Sx
