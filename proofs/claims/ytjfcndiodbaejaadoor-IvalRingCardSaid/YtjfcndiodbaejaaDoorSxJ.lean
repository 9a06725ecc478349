/-
  A symbolic executor for the model's code, tenth part: loops by an invariant.
-/
import Derived.Test.YtjfcndiodbaejaaDoorSxI
namespace Go.Sx
open Go Go.RowKit

/-! ### Part of a state -/
/-- Rows are renamed: V: the names that are given anew; σ: what they name. -/
def rn (σ : List (Nat × Nat)) (r : Nat) : Nat :=
  match look σ r with
  | some x => x
  | none => r
def rnV (V : List Nat) (σ : List (Nat × Nat)) (r : Nat) : Nat := bif memN r V then rn σ r else r
def TV.re (V : List Nat) (σ : List (Nat × Nat)) : TV → TV
  | .v x => .v x
  | .row r => .row (rnV V σ r)
def SV.re (V : List Nat) (σ : List (Nat × Nat)) : SV → SV
  | .row r => .row (rnV V σ r)
  | .rp r j o sz => .rp (rnV V σ r) j o sz
  | .mix t l => .mix t (l.map (TV.re V σ))
  | x => x
def kT (V : List Nat) (σ : List (Nat × Nat)) : List (Nat × SV) → St → Prop
  | [], _ => True
  | (t, x) :: r, S => look S.ts t = some (x.re V σ) ∧ kT V σ r S
def kB (V : List Nat) (σ : List (Nat × Nat)) : List (Nat × (Ct × TypeId)) → St → Prop
  | [], _ => True
  | (b, x) :: r, S => (∃ c, look S.bs b = some (c, x.2) ∧ ctList c = (ctList x.1).map (SV.re V σ)) ∧ kB V σ r S
def kL : List (Nat × LoopS) → St → Prop
  | [], _ => True
  | (l, x) :: r, S => look S.ls l = some x ∧ kL r S
/-- The one row holds what the other one is said to hold. -/
def rowEq (p q : RowS) : Prop := p.ty = q.ty ∧ p.sz = q.sz ∧ p.n = q.n ∧ (q.own = true → p.own = true) ∧ ∀ j, j < q.n → p.el j = q.el j
def kR (σ : List (Nat × Nat)) : List (Nat × Option RowS) → St → Prop
  | [], _ => True
  | (_, none) :: _, _ => False
  | (i, some q) :: r, S => (∃ p, lookR S.rs (rn σ i) = some p ∧ rowEq p q) ∧ kR σ r S
def nmR : List (Nat × Option RowS) → List Nat
  | [] => []
  | (i, _) :: r => i :: nmR r
/-- Two names of one row: neither may be written. -/
def injO (σ : List (Nat × Nat)) (i : Nat) (o : Bool) : List (Nat × Option RowS) → Bool
  | [] => true
  | (j, q) :: r => (Nat.beq i j || (!Nat.beq (rn σ i) (rn σ j) || (!o && (match q with
    | some q => !q.own
    | none => true)))) && injO σ i o r
def injR (σ : List (Nat × Nat)) (all : List (Nat × Option RowS)) : List (Nat × Option RowS) → Bool
  | [] => true
  | (i, q) :: r => injO σ i (match q with
    | some q => q.own
    | none => false) all && injR σ all r

/-- What T says, S says. -/
structure KeepsS (σ : List (Nat × Nat)) (S T : St) : Prop where
  ts : kT (nmR T.rs) σ T.ts S
  bs : kB (nmR T.rs) σ T.bs S
  ls : kL T.ls S
  rs : kR σ T.rs S
  inj : injR σ T.rs T.rs = true
def Keeps (S T : St) : Prop := ∃ σ, KeepsS σ S T

def wfTV (U : List Nat) : TV → Bool
  | .v _ => true
  | .row r => memN r U
def wfSV (U : List Nat) : SV → Bool
  | .v _ => true
  | .ptr b _ => memN b U
  | .fn _ caps => caps.all fun p => memN p.1 U
  | .yld l => memN l U
  | .sl b _ _ _ => memN b U
  | .row r => memN r U
  | .rp r _ _ _ => memN r U
  | .mix _ l => l.all (wfTV U)
/-- It speaks of no row of V. -/
def frTV (V : List Nat) : TV → Bool
  | .v _ => true
  | .row r => !memN r V
def frSV (V : List Nat) : SV → Bool
  | .row r => !memN r V
  | .rp r _ _ _ => !memN r V
  | .mix _ l => l.all (frTV V)
  | _ => true
def wfCt (U : List Nat) : Ct → Bool
  | .whole _ => true
  | .parts l => l.all (wfSV U)
/-- All that a state speaks of has a name in it. -/
def wfSt (U : List Nat) (T : St) : Bool :=
  T.ts.all (fun p => wfSV U p.2) && (T.bs.all (fun p => memN p.1 U && wfCt U p.2.1) && (T.ls.all (fun p => memN p.1 U && p.2.ts.all fun q => wfSV U q.2 && frSV (nmR T.rs) q.2) && (nmR T.rs).all fun r => memN r U))

def rebind (U V : List Nat) (σ : List (Nat × Nat)) (β : Ren) : Ren := ⟨fun b => bif memN b U then β b else none, fun r => bif memN r V then β.r (rn σ r) else bif memN r U then β.r r else none⟩

theorem look_mem {α : Type} : ∀ {l : List (Nat × α)} {i : Nat} {x : α}, look l i = some x → (i, x) ∈ l
  | [], i, x, h => by cases h
  | (j, y) :: r, i, x, h => by
    rw [look_cons] at h
    by_cases e : j = i
    · rw [if_pos e] at h; cases h; subst e; simp
    · rw [if_neg e] at h; exact List.mem_cons_of_mem _ (look_mem h)

theorem kT_look {V : List Nat} {σ : List (Nat × Nat)} : ∀ {l : List (Nat × SV)} {S : St} {t : Nat} {x : SV}, kT V σ l S → look l t = some x → look S.ts t = some (x.re V σ)
  | [], S, t, x, _, h => by cases h
  | (j, y) :: r, S, t, x, hk, h => by
    rw [look_cons] at h
    by_cases e : j = t
    · rw [if_pos e] at h; cases h; subst e; exact hk.1
    · rw [if_neg e] at h; exact kT_look hk.2 h
theorem kB_look {V : List Nat} {σ : List (Nat × Nat)} : ∀ {l : List (Nat × (Ct × TypeId))} {S : St} {t : Nat} {x : Ct × TypeId}, kB V σ l S → look l t = some x → ∃ c, look S.bs t = some (c, x.2) ∧ ctList c = (ctList x.1).map (SV.re V σ)
  | [], S, t, x, _, h => by cases h
  | (j, y) :: r, S, t, x, hk, h => by
    rw [look_cons] at h
    by_cases e : j = t
    · rw [if_pos e] at h; cases h; subst e; exact hk.1
    · rw [if_neg e] at h; exact kB_look hk.2 h
theorem kL_look : ∀ {l : List (Nat × LoopS)} {S : St} {t : Nat} {x : LoopS}, kL l S → look l t = some x → look S.ls t = some x
  | [], S, t, x, _, h => by cases h
  | (j, y) :: r, S, t, x, hk, h => by
    rw [look_cons] at h
    by_cases e : j = t
    · rw [if_pos e] at h; cases h; subst e; exact hk.1
    · rw [if_neg e] at h; exact kL_look hk.2 h
theorem kR_look {σ : List (Nat × Nat)} : ∀ {l : List (Nat × Option RowS)} {S : St} {i : Nat} {q : RowS}, kR σ l S → lookR l i = some q → ∃ p, lookR S.rs (rn σ i) = some p ∧ rowEq p q
  | [], S, i, q, _, h => by simp [lookR, look] at h
  | (j, none) :: r, S, i, q, hk, h => hk.elim
  | (j, some y) :: r, S, i, q, hk, h => by
    rw [lookR_cons] at h
    by_cases e : j = i
    · rw [if_pos e] at h; cases h; subst e; exact hk.1
    · rw [if_neg e] at h; exact kR_look hk.2 h
theorem lookR_mem : ∀ {l : List (Nat × Option RowS)} {i : Nat} {q : RowS}, lookR l i = some q → (i, some q) ∈ l
  | [], i, q, h => by simp [lookR, look] at h
  | (j, y) :: r, i, q, h => by
    rw [lookR_cons] at h
    by_cases e : j = i
    · rw [if_pos e] at h; subst h; subst e; simp
    · rw [if_neg e] at h; exact List.mem_cons_of_mem _ (lookR_mem h)
theorem nmR_mem : ∀ {l : List (Nat × Option RowS)} {i : Nat} {q : Option RowS}, (i, q) ∈ l → memN i (nmR l) = true
  | [], i, q, h => by simp at h
  | (j, y) :: r, i, q, h => by
    rw [nmR, memN_cons]
    rcases List.mem_cons.1 h with h | h
    · simp only [Prod.mk.injEq] at h; exact .inl h.1.symm
    · exact .inr (nmR_mem h)
theorem injO_spec {σ : List (Nat × Nat)} {i : Nat} {o : Bool} : ∀ {l : List (Nat × Option RowS)}, injO σ i o l = true → ∀ j q, (j, some q) ∈ l → i ≠ j → rn σ i = rn σ j → o = false ∧ q.own = false
  | [], _, j, q, h, _, _ => by simp at h
  | (k, y) :: r, hi, j, q, h, hne, he => by
    simp only [injO, Bool.and_eq_true, Bool.or_eq_true] at hi
    rcases List.mem_cons.1 h with h | h
    · simp only [Prod.mk.injEq] at h
      obtain ⟨rfl, rfl⟩ := h
      rcases hi.1 with h1 | h1 | h1
      · exact absurd (Nat.eq_of_beq_eq_true h1) hne
      · rw [he] at h1
        simp at h1
      · simp only [Bool.not_eq_true'] at h1
        exact h1
    · exact injO_spec hi.2 j q h hne he
theorem injR_spec {σ : List (Nat × Nat)} {all : List (Nat × Option RowS)} : ∀ {l : List (Nat × Option RowS)}, injR σ all l = true → ∀ i p j q, (i, some p) ∈ l → (j, some q) ∈ all → i ≠ j → rn σ i = rn σ j → p.own = false ∧ q.own = false
  | [], _, i, p, j, q, h, _, _, _ => by simp at h
  | (k, y) :: r, hi, i, p, j, q, h, h2, hne, he => by
    simp only [injR, Bool.and_eq_true] at hi
    rcases List.mem_cons.1 h with h | h
    · simp only [Prod.mk.injEq] at h
      obtain ⟨rfl, rfl⟩ := h
      exact injO_spec hi.1 j q h2 hne he
    · exact injR_spec hi.2 i p j q h h2 hne he

section
variable {U V : List Nat} {σ : List (Nat × Nat)} {β : Ren}
theorem reb_mem {b : Nat} (h : memN b U = true) : rebind U V σ β b = β b := by
  show (bif memN b U then β b else none) = β b
  rw [h]; rfl
theorem reb_some {b k : Nat} (h : rebind U V σ β b = some k) : memN b U = true ∧ β b = some k := by
  have h : (bif memN b U then β b else none) = some k := h
  cases hm : memN b U with
  | true => rw [hm] at h; exact ⟨rfl, h⟩
  | false => rw [hm] at h; cases h
theorem reb_row {r : Nat} (h : memN r U = true) : (rebind U V σ β).r r = β.r (rnV V σ r) := by
  show (bif memN r V then β.r (rn σ r) else bif memN r U then β.r r else none) = β.r (rnV V σ r)
  rw [h, rnV]
  cases memN r V <;> rfl
theorem reb_row_some {r : Nat} {p : RP} (h : (rebind U V σ β).r r = some p) : β.r (rnV V σ r) = some p ∧ (memN r V = true ∨ memN r U = true) := by
  have h : (bif memN r V then β.r (rn σ r) else bif memN r U then β.r r else none) = some p := h
  rw [rnV]
  cases hv : memN r V with
  | true => rw [hv] at h; exact ⟨h, .inl rfl⟩
  | false =>
    rw [hv] at h
    cases hu : memN r U with
    | true => rw [hu] at h; exact ⟨h, .inr rfl⟩
    | false => rw [hu] at h; cases h
theorem adr_reb {p : Nat × Nat} (h : memN p.1 U = true) : adr (rebind U V σ β) p = adr β p := by unfold adr; rw [reb_mem h]
theorem adrs_reb : ∀ {l : List (Nat × Nat)}, (l.all fun p => memN p.1 U) = true → adrs (rebind U V σ β) l = adrs β l
  | [], _ => rfl
  | p :: r, h => by
    simp only [List.all_cons, Bool.and_eq_true] at h
    simp only [adrs, adr_reb h.1, adrs_reb h.2]
theorem denT_reb {x : TV} (h : wfTV U x = true) : denT (rebind U V σ β) x = denT β (x.re V σ) := by
  cases x with
  | v y => rfl
  | row r => simp only [denT, TV.re, reb_row (show memN r U = true from h)]
theorem denTs_reb : ∀ {l : List TV}, l.all (wfTV U) = true → denTs (rebind U V σ β) l = denTs β (l.map (TV.re V σ))
  | [], _ => rfl
  | x :: r, h => by
    simp only [List.all_cons, Bool.and_eq_true] at h
    simp only [denTs, List.map_cons, denT_reb h.1, denTs_reb h.2]
theorem den_reb {x : SV} (h : wfSV U x = true) : den (rebind U V σ β) x = den β (x.re V σ) := by
  cases x with
  | v y => rfl
  | ptr b o => exact adr_reb h
  | fn f c => simp only [den, SV.re, adrs_reb h]
  | yld l => simp only [den, SV.re, reb_mem (show memN l U = true from h)]
  | sl b o n c => simp only [den, SV.re, reb_mem (show memN b U = true from h)]
  | row r => simp only [den, SV.re, reb_row (show memN r U = true from h)]
  | rp r j o sz => simp only [den, SV.re, reb_row (show memN r U = true from h)]
  | mix t l => simp only [den, SV.re, denTs_reb (show l.all (wfTV U) = true from h)]
theorem dens_reb : ∀ {l : List SV}, l.all (wfSV U) = true → dens (rebind U V σ β) l = dens β (l.map (SV.re V σ))
  | [], _ => rfl
  | x :: r, h => by
    simp only [List.all_cons, Bool.and_eq_true] at h
    simp only [dens, List.map_cons, den_reb h.1, dens_reb h.2]
theorem frTV_re {x : TV} (h : frTV V x = true) : x.re V σ = x := by
  cases x with
  | v y => rfl
  | row r =>
    have h : memN r V = false := by simpa [frTV] using h
    simp [TV.re, rnV, h]
theorem frSV_re {x : SV} (h : frSV V x = true) : x.re V σ = x := by
  cases x with
  | row r =>
    have h : memN r V = false := by simpa [frSV] using h
    simp [SV.re, rnV, h]
  | rp r j o sz =>
    have h : memN r V = false := by simpa [frSV] using h
    simp [SV.re, rnV, h]
  | mix t l =>
    have h : l.all (frTV V) = true := h
    simp only [SV.re, SV.mix.injEq, true_and]
    rw [List.all_eq_true] at h
    have : ∀ l : List TV, (∀ x ∈ l, frTV V x = true) → l.map (TV.re V σ) = l := fun l => by
      induction l with
      | nil => intro _; rfl
      | cons y r ih => intro h; rw [List.map_cons, frTV_re (h y (by simp)), ih fun x hx => h x (by simp [hx])]
    exact this l h
  | _ => rfl
end

theorem wf_ctList {U : List Nat} {c : Ct} (h : wfCt U c = true) : (ctList c).all (wfSV U) = true := by
  cases c with
  | whole x =>
    simp only [ctList, List.all_eq_true, List.mem_map]
    rintro y ⟨z, _, rfl⟩
    rfl
  | parts l => exact h

theorem dens_ctList' {β : Ren} {c : Ct} {vs : List Value} (h : dens β (ctList c) = some vs) : denCt β c = some vs.toArray := by
  cases c with
  | whole x =>
    simp only [ctList] at h
    rw [dens_map_v] at h
    simp only [Option.some.injEq] at h
    subst h
    rfl
  | parts l =>
    simp only [ctList] at h
    simp only [denCt, h]
/-- Less is known of fewer things; rows are renamed. -/
theorem R.forget {U : List Nat} {β : Ren} {w0 : World} {B N : Nat} {O : Fr} {m : Nat} {S T : St} {a : Act} {W : World} (h : R β w0 B N O m S a W) (hU : T.us = U) (hO : ∀ b, O.o b → memN b U = true)
    (hOk : ∀ k, O.k k → ∃ r p, β.r r = some p ∧ p.own = true ∧ p.k = k ∧ memN r U = true ∧ memN r (nmR T.rs) = false) {σ : List (Nat × Nat)} (hk : KeepsS σ S T) (hw : wfSt U T = true) :
    R (rebind U (nmR T.rs) σ β) w0 B N O m T a W := by
  simp only [wfSt, Bool.and_eq_true, List.all_eq_true] at hw
  obtain ⟨w1, w2, w3, w4⟩ := hw
  have row : ∀ {r : Nat} {q : RowS}, lookR T.rs r = some q → ∃ p x, lookR S.rs (rn σ r) = some p ∧ rowEq p q ∧ β.r (rn σ r) = some x ∧ (rebind U (nmR T.rs) σ β).r r = some x ∧ RowR W q x := fun {r q} hr => by
    obtain ⟨p, hp, he⟩ := kR_look hk.rs hr
    obtain ⟨x, hx, hw⟩ := h.rs _ p hp
    have hm := nmR_mem (lookR_mem hr)
    refine ⟨p, x, hp, he, hx, ?_, ?_⟩
    · show (bif memN r (nmR T.rs) then β.r (rn σ r) else _) = _
      rw [hm]
      exact hx
    · obtain ⟨e1, e2, e3, e4, e5⟩ := he
      obtain ⟨cells, hc, hs, hel⟩ := hw.mem
      refine ⟨hw.n.trans e3, by rw [← e3]; exact hw.cap, fun ho => hw.own (e4 ho), cells, by rw [← e1]; exact hc, fun ho => by rw [← e2]; exact hs (e4 ho), fun j hj => ?_⟩
      rw [← e5 j hj, ← e2]
      exact hel j (by rw [e3]; exact hj)
  have inU : ∀ {r : Nat}, memN r (nmR T.rs) = true → memN r U = true := fun {r} hm => by
    refine w4 r ?_
    clear row w4 hOk hk w3
    generalize nmR T.rs = l at hm
    induction l with
    | nil => cases hm
    | cons j l ih =>
      rcases (memN_cons j l r).1 hm with rfl | hm
      · simp
      · exact List.mem_cons_of_mem _ (ih hm)
  have back : ∀ k, k < B → (∀ r p, (rebind U (nmR T.rs) σ β).r r = some p → p.own = true → p.k ≠ k) → ∀ r p, β.r r = some p → p.own = true → p.k ≠ k := fun k hkB hr r p hp ho e => by
    obtain ⟨r0, p0, f1, f2, f3, f4, f5⟩ := hOk k (by rw [← e]; exact h.rold r p hp ho (by rw [e]; exact hkB))
    refine hr r0 p0 ?_ f2 f3
    rw [reb_row f4, rnV, f5]
    exact f1
  exact {
    ts := fun t x hx => by
      obtain ⟨v, hv, ht⟩ := h.ts t _ (kT_look hk.ts hx)
      exact ⟨v, (den_reb (w1 _ (look_mem hx))).trans hv, ht⟩
    bs := fun b c ty hb => by
      obtain ⟨c0, hl0, he0⟩ := kB_look hk.bs hb
      obtain ⟨k, cells, hk', hc, hh⟩ := h.bs b c0 ty hl0
      have := w2 _ (look_mem hb)
      have hd := dens_ctList hc
      rw [he0, ← dens_reb (wf_ctList this.2)] at hd
      have := dens_ctList' hd
      rw [Array.toArray_toList] at this
      exact ⟨k, cells, (reb_mem (w2 _ (look_mem hb)).1).trans hk', this, hh⟩
    ls := fun l q hl => by
      obtain ⟨k, r, hk', hh, hr⟩ := h.ls l q (kL_look hk.ls hl)
      have := w3 _ (look_mem hl)
      have hts : ∀ t x, look q.ts t = some x → ∃ v, den (rebind U (nmR T.rs) σ β) x = some v ∧ r.tmps[t]? = some v := fun t x hx => by
        obtain ⟨v, hv, ht⟩ := hr.ts t x hx
        obtain ⟨g1, g2⟩ := this.2 _ (look_mem hx)
        exact ⟨v, by rw [den_reb g1, frSV_re g2]; exact hv, ht⟩
      exact ⟨k, r, (reb_mem this.1).trans hk', hh, ⟨hr.st, hr.pend, hr.params, hr.asg, hr.body, hr.size, hts⟩⟩
    rs := fun r q hr => by
      obtain ⟨p, x, _, _, _, g, g2⟩ := row hr
      exact ⟨x, g, g2⟩
    rb := fun r q x hr hx b hb => by
      obtain ⟨p, y, g1, _, g3, g4, _⟩ := row hr
      rw [hx] at g4
      cases g4
      exact h.rb _ p x g1 g3 b (reb_some hb).2
    ro := fun r r' q q' x x' hr hr' hx hx' hne he => by
      obtain ⟨p, y, g1, g2, g3, g4, _⟩ := row hr
      obtain ⟨p', y', g1', g2', g3', g4', _⟩ := row hr'
      rw [hx] at g4
      rw [hx'] at g4'
      cases g4
      cases g4'
      by_cases e : rn σ r = rn σ r'
      · exact injR_spec hk.inj r q r' q' (lookR_mem hr) (lookR_mem hr') hne e
      · obtain ⟨f1, f2⟩ := h.ro _ _ p p' x x' g1 g1' g3 g3' e he
        refine ⟨?_, ?_⟩
        · cases ho : q.own with
          | false => rfl
          | true => rw [g2.2.2.2.1 ho] at f1; cases f1
        · cases ho : q'.own with
          | false => rfl
          | true => rw [g2'.2.2.2.1 ho] at f2; cases f2
    rdom := fun r p hp => by
      rw [hU]
      rcases (reb_row_some hp).2 with e | e
      · exact inU e
      · exact e
    rlt := fun r p hp => h.rlt _ p (reb_row_some hp).1
    rold := fun r p hp => h.rold _ p (reb_row_some hp).1
    rodom := fun k hk' => by
      obtain ⟨r0, p0, f1, f2, f3, f4, f5⟩ := hOk k hk'
      refine ⟨r0, p0, ?_, f2, f3⟩
      rw [reb_row f4, rnV, f5]
      exact f1
    rlz := fun x hx r p hp => h.rlz x hx _ p (reb_row_some hp).1
    dom := fun b k hb => by rw [hU]; exact (reb_some hb).1
    lt := fun b k hb => h.lt b k (reb_some hb).2
    inj := fun b b' k hb hb' => h.inj b b' k (reb_some hb).2 (reb_some hb').2
    glob := fun g k hb => h.glob g k (reb_some hb).2
    old := fun k hk' hb hr => h.old k hk' (fun b hb' => by
      have hm := hO b (h.nold b k hb' hk')
      exact hb b ((reb_mem hm).trans hb')) (back k hk' hr)
    nold := fun b k hb hk' => h.nold b k (reb_some hb).2 hk'
    odom := fun b hb => by
      obtain ⟨k, hk'⟩ := h.odom b hb
      exact ⟨k, (reb_mem (hO b hb)).trans hk'⟩
    lzW := h.lzW
    lzn := fun x hx b hb => h.lzn x hx b (reb_some hb).2
    hB := h.hB
    os := h.os
    tape := h.tape
    output := h.output
    size := h.size
    dfr := by
      obtain ⟨ks, h1, h2, h3, h4⟩ := h.dfr
      refine ⟨ks, h1, h2, h3, fun k hk' => ?_⟩
      obtain ⟨g1, g2, g3⟩ := h4 k hk'
      exact ⟨g1, ⟨fun b hb => g2.1 b (reb_some hb).2, fun r p hp => g2.2 _ p (reb_row_some hp).1⟩, g3⟩ }

theorem Ext.reb {U V : List Nat} {σ : List (Nat × Nat)} {β β' : Ren} (h : Ext β β') (hd : ∀ b k, β b = some k → memN b U = true) (hr : ∀ r p, β.r r = some p → memN r U = true ∧ memN r V = false) : Ext β (rebind U V σ β') :=
  ⟨fun b k hb => (reb_mem (hd b k hb)).trans (h b k hb), fun r p hp => by
    obtain ⟨g1, g2⟩ := hr r p hp
    rw [reb_row g1, rnV, g2]
    exact h.r r p hp⟩

def usIn (U : List Nat) : List Nat → Bool
  | [] => true
  | i :: r => memN i U && usIn U r
theorem usIn_spec {U : List Nat} : ∀ {l : List Nat}, usIn U l = true → ∀ i, memN i l = true → memN i U = true
  | [], _, i, h => by cases h
  | j :: r, hl, i, h => by
    simp only [usIn, Bool.and_eq_true] at hl
    rcases (memN_cons j r i).1 h with rfl | h
    · exact hl.1
    · exact usIn_spec hl.2 i h

/-! ### What is to be shown where one state is taken for another -/
def svEq : SV → SV → List Prop
  | .v x, .v y => [x = y]
  | x, y => [x = y]
theorem svEq_spec {x y : SV} (h : ∀ p ∈ svEq x y, p) : x = y := by
  cases x <;> cases y <;> first | exact h _ (by simp [svEq]) | (have := h _ (by simp only [svEq]; exact List.mem_singleton.2 rfl); rw [this])
def svsEq : List SV → List SV → Option (List Prop)
  | [], [] => some []
  | x :: r, y :: l => match svsEq r l with
    | some ps => some (svEq x y ++ ps)
    | none => none
  | _, _ => none
theorem svsEq_spec : ∀ {a b : List SV} {ps : List Prop}, svsEq a b = some ps → (∀ p ∈ ps, p) → a = b
  | [], [], _, _, _ => rfl
  | x :: r, y :: l, ps, h, hp => by
    simp only [svsEq] at h
    split at h
    · rename_i qs hq
      simp only [Option.some.injEq] at h; subst h
      rw [svEq_spec fun p h => hp p (List.mem_append.2 (.inl h)), svsEq_spec hq fun p h => hp p (List.mem_append.2 (.inr h))]
    · cases h
  | [], _ :: _, _, h, _ => by cases h
  | _ :: _, [], _, h, _ => by cases h
def ctEq : Ct → Ct → Option (List Prop)
  | .whole x, .whole y => some [x = y]
  | c, d => svsEq (ctList c) (ctList d)
theorem ctEq_spec {c d : Ct} {ps : List Prop} (h : ctEq c d = some ps) (hp : ∀ p ∈ ps, p) : ctList c = ctList d := by
  unfold ctEq at h
  split at h
  · simp only [Option.some.injEq] at h; subst h
    rw [hp _ (List.mem_singleton.2 rfl)]
  · exact svsEq_spec h hp

/-- Which row is which. -/
def pairTV : List TV → List TV → List (Nat × Nat)
  | .row r :: l, .row q :: k => (r, q) :: pairTV l k
  | _ :: l, _ :: k => pairTV l k
  | _, _ => []
def pairSV : SV → SV → List (Nat × Nat)
  | .row r, .row q => [(r, q)]
  | .rp r _ _ _, .rp q _ _ _ => [(r, q)]
  | .mix _ l, .mix _ k => pairTV l k
  | _, _ => []
def pairSVs : List SV → List SV → List (Nat × Nat)
  | x :: l, y :: k => pairSV x y ++ pairSVs l k
  | _, _ => []
def pairT : List (Nat × SV) → St → List (Nat × Nat)
  | [], _ => []
  | (t, y) :: r, S => (match look S.ts t with
    | some x => pairSV y x
    | none => []) ++ pairT r S
def pairB : List (Nat × (Ct × TypeId)) → St → List (Nat × Nat)
  | [], _ => []
  | (b, (d, _)) :: r, S => (match look S.bs b with
    | some (c, _) => pairSVs (ctList d) (ctList c)
    | none => []) ++ pairB r S

def ctRe (V : List Nat) (σ : List (Nat × Nat)) : Ct → Ct
  | .whole x => .whole x
  | .parts l => .parts (l.map (SV.re V σ))
theorem ctRe_list (V : List Nat) (σ : List (Nat × Nat)) (c : Ct) : ctList (ctRe V σ c) = (ctList c).map (SV.re V σ) := by
  cases c with
  | whole x => simp only [ctRe, ctList, List.map_map]; rfl
  | parts l => rfl

def tsL (V : List Nat) (σ : List (Nat × Nat)) : List (Nat × SV) → St → Option (List Prop)
  | [], _ => some []
  | (t, y) :: r, S => match look S.ts t, tsL V σ r S with
    | some x, some ps => some (svEq x (y.re V σ) ++ ps)
    | _, _ => none
def bsL (V : List Nat) (σ : List (Nat × Nat)) : List (Nat × (Ct × TypeId)) → St → Option (List Prop)
  | [], _ => some []
  | (b, (d, ty)) :: r, S => match look S.bs b, bsL V σ r S with
    | some (c, ty'), some ps => bif Nat.beq ty' ty then (match ctEq c (ctRe V σ d) with
      | some qs => some (qs ++ ps)
      | none => none) else none
    | _, _ => none
def lsL : List (Nat × LoopS) → St → Option (List Prop)
  | [], _ => some []
  | (l, y) :: r, S => match look S.ls l, lsL r S with
    | some x, some ps => some ((x = y) :: ps)
    | _, _ => none
def rsL (σ : List (Nat × Nat)) : List (Nat × Option RowS) → St → Option (List Prop)
  | [], _ => some []
  | (_, none) :: _, _ => none
  | (i, some q) :: r, S => match lookR S.rs (rn σ i), rsL σ r S with
    | some p, some ps => bif Nat.beq p.ty q.ty && (Nat.beq p.sz q.sz && (!q.own || p.own)) then some ((p.n = q.n) :: (∀ j, j < q.n → p.el j = q.el j) :: ps) else none
    | _, _ => none
def keepsL (S T : St) : Option (List Prop) :=
  match tsL (nmR T.rs) (pairT T.ts S ++ pairB T.bs S) T.ts S, bsL (nmR T.rs) (pairT T.ts S ++ pairB T.bs S) T.bs S, lsL T.ls S, rsL (pairT T.ts S ++ pairB T.bs S) T.rs S with
  | some a, some b, some c, some d => bif injR (pairT T.ts S ++ pairB T.bs S) T.rs T.rs then some (a ++ (b ++ (c ++ d))) else none
  | _, _, _, _ => none

theorem rsL_spec {σ : List (Nat × Nat)} : ∀ {l : List (Nat × Option RowS)} {S : St} {ps : List Prop}, rsL σ l S = some ps → (∀ p ∈ ps, p) → kR σ l S
  | [], _, _, _, _ => trivial
  | (_, none) :: _, _, _, h, _ => by cases h
  | (i, some q) :: r, S, ps, h, hp => by
    simp only [rsL] at h
    split at h
    · rename_i p qs hl hq
      cases hb : (Nat.beq p.ty q.ty && (Nat.beq p.sz q.sz && (!q.own || p.own))) with
      | false => rw [hb] at h; cases h
      | true =>
        rw [hb] at h
        simp only [cond_true, Option.some.injEq] at h; subst h
        simp only [Bool.and_eq_true, Bool.or_eq_true, Bool.not_eq_true'] at hb
        obtain ⟨b1, b2, b3⟩ := hb
        refine ⟨⟨p, hl, Nat.eq_of_beq_eq_true b1, Nat.eq_of_beq_eq_true b2, hp _ (by simp), fun ho => ?_, hp _ (by simp)⟩, rsL_spec hq fun p h => hp p (by simp [h])⟩
        rcases b3 with b3 | b3
        · rw [b3] at ho; cases ho
        · exact b3
    · cases h
theorem tsL_spec {V : List Nat} {σ : List (Nat × Nat)} : ∀ {l : List (Nat × SV)} {S : St} {ps : List Prop}, tsL V σ l S = some ps → (∀ p ∈ ps, p) → kT V σ l S
  | [], _, _, _, _ => trivial
  | (t, y) :: r, S, ps, h, hp => by
    simp only [tsL] at h
    split at h
    · rename_i x qs hx hq
      simp only [Option.some.injEq] at h; subst h
      refine ⟨?_, tsL_spec hq fun p h => hp p (List.mem_append.2 (.inr h))⟩
      rw [hx, svEq_spec fun p h => hp p (List.mem_append.2 (.inl h))]
    · cases h
theorem bsL_spec {V : List Nat} {σ : List (Nat × Nat)} : ∀ {l : List (Nat × (Ct × TypeId))} {S : St} {ps : List Prop}, bsL V σ l S = some ps → (∀ p ∈ ps, p) → kB V σ l S
  | [], _, _, _, _ => trivial
  | (t, (d, ty)) :: r, S, ps, h, hp => by
    simp only [bsL] at h
    split at h
    · rename_i c ty' qs hx hq
      cases hty : Nat.beq ty' ty with
      | false => rw [hty] at h; cases h
      | true =>
        rw [hty] at h
        have hty := Nat.eq_of_beq_eq_true hty
        subst hty
        simp only [cond_true] at h
        split at h
        · rename_i rs hr
          simp only [Option.some.injEq] at h; subst h
          exact ⟨⟨c, hx, (ctEq_spec hr fun p h => hp p (List.mem_append.2 (.inl h))).trans (ctRe_list V σ d)⟩, bsL_spec hq fun p h => hp p (List.mem_append.2 (.inr h))⟩
        · cases h
    · cases h
theorem lsL_spec : ∀ {l : List (Nat × LoopS)} {S : St} {ps : List Prop}, lsL l S = some ps → (∀ p ∈ ps, p) → kL l S
  | [], _, _, _, _ => trivial
  | (t, y) :: r, S, ps, h, hp => by
    simp only [lsL] at h
    split at h
    · rename_i x qs hx hq
      simp only [Option.some.injEq] at h; subst h
      refine ⟨?_, lsL_spec hq fun p h => hp p (List.mem_cons_of_mem _ h)⟩
      rw [hx, hp _ List.mem_cons_self]
    · cases h
theorem keepsL_spec {S T : St} {ps : List Prop} (h : keepsL S T = some ps) (hp : ∀ p ∈ ps, p) : Keeps S T := by
  unfold keepsL at h
  split at h
  · rename_i a b c d h1 h2 h3 h4
    cases hi : injR (pairT T.ts S ++ pairB T.bs S) T.rs T.rs with
    | false => rw [hi] at h; cases h
    | true =>
      rw [hi] at h
      simp only [cond_true, Option.some.injEq] at h; subst h
      exact ⟨_, tsL_spec h1 fun p h => hp p (by simp [h]), bsL_spec h2 fun p h => hp p (by simp [h]), lsL_spec h3 fun p h => hp p (by simp [h]), rsL_spec h4 fun p h => hp p (by simp [h]), hi⟩
  · cases h

/-- What is to be shown where a state is taken for what it is; pt: the blocks that were written cell by cell. -/
def svsSelf : List SV → List Prop
  | [] => []
  | x :: r => svEq x x ++ svsSelf r
def ctSelf (b : Bool) : Ct → List Prop
  | .whole x => match b with
    | true => svsSelf (ctList (.whole x))
    | false => [x = x]
  | c => svsSelf (ctList c)
def selfB (pt : List Nat) : List (Nat × (Ct × TypeId)) → List Prop
  | [] => []
  | (b, (d, _)) :: r => ctSelf (memN b pt) d ++ selfB pt r
def selfLs : List (Nat × LoopS) → List Prop
  | [] => []
  | (_, y) :: r => (y = y) :: selfLs r
def selfL (T : St) (pt : List Nat) : List Prop := svsSelf (T.ts.map (·.2)) ++ (selfB pt T.bs ++ selfLs T.ls)
theorem svEq_self (x : SV) : ∀ p ∈ svEq x x, p := by
  cases x <;> simp [svEq]
theorem svsSelf_ok : ∀ (l : List SV), ∀ p ∈ svsSelf l, p
  | [], p, h => by simp [svsSelf] at h
  | x :: r, p, h => by
    simp only [svsSelf, List.mem_append] at h
    rcases h with h | h
    · exact svEq_self x p h
    · exact svsSelf_ok r p h
theorem ctSelf_ok (b : Bool) (c : Ct) : ∀ p ∈ ctSelf b c, p := by
  intro p h
  cases c with
  | whole x =>
    cases b with
    | true => exact svsSelf_ok _ p h
    | false =>
      have := List.mem_singleton.1 h
      rw [this]
  | parts l => exact svsSelf_ok _ p h
theorem selfB_ok (pt : List Nat) : ∀ (l : List (Nat × (Ct × TypeId))), ∀ p ∈ selfB pt l, p
  | [], p, h => by simp [selfB] at h
  | (b, (d, ty)) :: r, p, h => by
    simp only [selfB, List.mem_append] at h
    rcases h with h | h
    · exact ctSelf_ok _ _ p h
    · exact selfB_ok pt r p h
theorem selfLs_ok : ∀ (l : List (Nat × LoopS)), ∀ p ∈ selfLs l, p
  | [], p, h => by simp [selfLs] at h
  | (b, d) :: r, p, h => by
    rcases List.mem_cons.1 (show p ∈ (d = d) :: selfLs r from h) with h | h
    · rw [h]
    · exact selfLs_ok r p h
theorem selfL_ok (T : St) (pt : List Nat) : ∀ p ∈ selfL T pt, p := by
  intro p h
  simp only [selfL, List.mem_append] at h
  rcases h with h | h | h
  · exact svsSelf_ok _ p h
  · exact selfB_ok pt _ p h
  · exact selfLs_ok _ p h
theorem ps_app {l s : List Prop} (h : ∀ p ∈ l, p) (k : ∀ p ∈ s, p) : ∀ p ∈ l ++ s, p := by
  intro p hp
  rcases List.mem_append.1 hp with hp | hp
  · exact h p hp
  · exact k p hp

/-- One run of a piece of code, whatever came ahead. -/
def StepTo (P : Program) (E : Env P) (lv N : Nat) (body : Code) (S : St) (good : Out → St → Prop) : Prop :=
  ∀ m, ∃ (ds : List Dec) (cnt : Nat) (o : Out) (S1 : St) (ds1 : List Dec) (ps : List Prop) (cnt1 : Nat), codeN P E lv N true body S ds cnt m = some ⟨o, S1, ds1, ps, cnt1, m⟩ ∧ (∀ p ∈ ps, p) ∧ good o S1

/-- A run, and what is to be shown of it: T: how the state is to be taken behind it. -/
def stepF (P : Program) (E : Env P) (lv N : Nat) (body : Code) (S : St) (ds : List Dec) (cnt : Nat) (T : Out → Option St) (m : Nat) : Option (Out × Nat × List Prop) :=
  match codeN P E lv N true body S ds cnt m with
  | some ⟨o, S1, _, ps, _, m1⟩ => match T o with
    | some T => match keepsL S1 T with
      | some qs => some (o, m1, ps ++ qs)
      | none => none
    | none => none
  | none => none

theorem step_run {P : Program} {E : Env P} {lv N : Nat} {body : Code} {S T : St} {good : Out → St → Prop} {ds : List Dec} {cnt : Nat} {tgt : Out → Option St} {o : Out} {ps : List Prop} (h : ∀ m, stepF P E lv N body S ds cnt tgt m = some (o, m, ps))
    (hp : ∀ p ∈ ps, p) (hT : tgt o = some T) (hg : ∀ S1, Keeps S1 T → good o S1) : StepTo P E lv N body S good := by
  intro m
  have h := h m
  unfold stepF at h
  split at h
  · rename_i o' S1 ds1 ps1 c1 m1 hx
    split at h
    · rename_i T' hT'
      split at h
      · rename_i qs hq
        simp only [Option.some.injEq, Prod.mk.injEq] at h
        obtain ⟨rfl, rfl, rfl⟩ := h
        rw [hT] at hT'
        cases hT'
        exact ⟨ds, cnt, o', S1, ds1, ps1, c1, hx, fun p h => hp p (by simp [h]), hg S1 (keepsL_spec hq fun p h => hp p (by simp [h]))⟩
      · cases h
    · cases h
  · cases h

theorem StepTo.go {P : Program} {E : Env P} {lv N : Nat} {body : Code} {S : St} {good : Out → St → Prop} (hm : P.follows .mixedOrders = true) (hd : dfsOk E.dfs = true) (h : StepTo P E lv N body S good)
    {F : Fence} {n : Nat} {w0 : World} {B : Nat} {O : Fr} {m : Nat} {β : Ren} {a : Act} {W : World} {Q : Exit → Act → World → Prop} (hF : Loose F) (hR : R β w0 B N O m S a W)
    (hQ : ∀ o S1, good o S1 → ∀ β' a' W', Ext β β' → R β' w0 B N O m S1 a' W' → Q o.exit' a' W') : body.wpIn F n P Q a W := by
  obtain ⟨ds, cnt, o, S1, ds1, ps, cnt1, hx, hp, hg⟩ := h m
  exact (codeN_ok hm E hd lv).go hx hp hF (fun e => by cases e) hR fun β' a' W' hE hR' => hQ o S1 hg β' a' W' hE hR'

/-- The k-th loop, scope or range over a function of a body, in the text's order, the outer ahead of the inner. -/
def inner : Code → List Code
  | .seq x y => inner x ++ inner y
  | .cond _ x y => inner x ++ inner y
  | .block _ x => inner x
  | .loop x => .loop x :: inner x
  | .scope x => .scope x :: inner x
  | .rangeFunc g ps x y => .rangeFunc g ps x y :: (inner x ++ inner y)
  | _ => []
def innerOf (P : Program) (f k : Nat) : Code :=
  match P.funcs[f]? with
  | some fn => match fn.body with
    | some c => (getL (inner c) k).getD .skip
    | none => .skip
  | none => .skip
def bodyOf : Code → Code
  | .loop x => x
  | .scope x => x
  | c => c

/-- No name of V is taken. -/
def freeV (V us : List Nat) : Bool := V.all fun r => !memN r us
theorem freeV_spec {V us : List Nat} (h : freeV V us = true) {r : Nat} (hr : memN r us = true) : memN r V = false := by
  cases hv : memN r V with
  | false => rfl
  | true =>
    exfalso
    have : r ∈ V := by
      clear h
      induction V with
      | nil => cases hv
      | cons j l ih =>
        rcases (memN_cons j l r).1 hv with rfl | hv
        · simp
        · exact List.mem_cons_of_mem _ (ih hv)
    have := List.all_eq_true.1 h r this
    rw [hr] at this
    cases this

theorem entry_spec {S T : St} {U V : List Nat} {out out' : Out} {fin S' : St} {ps : List Prop} (hr : (match keepsL S T with
    | some ps => bif usIn U S.us && freeV V S.us then some (out, fin, ps) else none
    | none => none) = some (out', S', ps)) (hp : ∀ p ∈ ps, p) : Keeps S T ∧ (usIn U S.us && freeV V S.us) = true ∧ out = out' ∧ fin = S' := by
  split at hr
  · rename_i qs hq
    cases hu : (usIn U S.us && freeV V S.us) with
    | false => rw [hu] at hr; cases hr
    | true =>
      rw [hu] at hr
      simp only [cond_true, Option.some.injEq, Prod.mk.injEq] at hr
      obtain ⟨rfl, rfl, rfl⟩ := hr
      exact ⟨keepsL_spec hq hp, rfl, rfl, rfl⟩
  · cases hr

/-- A loop, by an invariant: g: how it stands ahead of a round; each round leaves the loop, or comes nearer to its end. -/
def loopC {P : Program} (hm : P.follows .mixedOrders = true) (E : Env P) (hd : dfsOk E.dfs = true) (lv N : Nat) (body : Code) (U : List Nat) {G : Type} (st : G → St) (inv : G → Prop) (mu : G → Nat) (out : Out) (fin : St)
    (hout : out ≠ .normal) (hU : ∀ g, (st g).us = U) (hUf : fin.us = U) (hw : ∀ g, wfSt U (st g) = true) (hwf : wfSt U fin = true) (V : List Nat) (hV : ∀ g, nmR (st g).rs = V) (hVf : nmR fin.rs = V)
    (step : ∀ g, inv g → StepTo P E lv N body (st g) fun o S1 => (o = .normal ∧ ∃ g', inv g' ∧ mu g' < mu g ∧ Keeps S1 (st g')) ∨ (o = out ∧ Keeps S1 fin))
    (g0 : G) (h0 : inv g0) : CodeC P where
  c := .loop body
  N := N
  run := fun S => match keepsL S (st g0) with
    | some ps => bif usIn U S.us && freeV V S.us then some (out, fin, ps) else none
    | none => none
  sound := by
    intro F n w0 B O m β S a W Q out' S' ps hF hr hp h hQ
    obtain ⟨⟨σ0, hk⟩, hus, rfl, rfl⟩ := entry_spec hr hp
    simp only [Bool.and_eq_true] at hus
    have hdom : ∀ b k, β b = some k → memN b U = true := fun b k hb => usIn_spec hus.1 b (h.dom b k hb)
    have hrdom : ∀ r p, β.r r = some p → memN r U = true ∧ memN r V = false := fun r p hp => ⟨usIn_spec hus.1 r (h.rdom r p hp), freeV_spec hus.2 (h.rdom r p hp)⟩
    have hO : ∀ b, O.o b → memN b U = true := fun b hb => let ⟨k, hk'⟩ := h.odom b hb; hdom b k hk'
    have hOk : ∀ {β' : Ren}, Ext β β' → ∀ k, O.k k → ∃ r p, β'.r r = some p ∧ p.own = true ∧ p.k = k ∧ memN r U = true ∧ memN r V = false := fun hE k hk' =>
      let ⟨r, p, h1, h2, h3⟩ := h.rodom k hk'
      ⟨r, p, hE.r r p h1, h2, h3, (hrdom r p h1).1, (hrdom r p h1).2⟩
    have key : ∀ (k : Nat) (g : G) (β' : Ren) (a' : Act) (W' : World), mu g < k → inv g → Ext β β' → R β' w0 B N O m (st g) a' W' → Code.roundsIn F n P body Q k a' W' := by
      intro k
      induction k with
      | zero => intro g β' a' W' hlt; omega
      | succ k ih =>
        intro g β' a' W' hlt hi hE hR
        rw [roundsIn_succ]
        refine (step g hi).go hm hd hF hR ?_
        rintro o S1 (⟨rfl, g', hi', hmu, σ, hk'⟩ | ⟨rfl, σ, hk'⟩) β2 a2 W2 hE2 hR2
        · exact ih g' _ a2 W2 (by omega) hi' ((hE.trans hE2).reb hdom (by rw [hV]; exact hrdom)) (hR2.forget (hU g') hO (by rw [hV]; exact hOk (hE.trans hE2)) hk' (hw g'))
        · have := hQ _ a2 W2 ((hE.trans hE2).reb hdom (by rw [hVf]; exact hrdom)) (hR2.forget hUf hO (by rw [hVf]; exact hOk (hE.trans hE2)) hk' hwf)
          cases o with
          | normal => exact absurd rfl hout
          | exit id => exact this
          | ret => exact this
          | goto l => exact this
          | panic v => exact this
    refine wpIn_loop_rounds (mu g0 + 1) ?_
    exact key _ g0 _ a W (by omega) h0 ((Ext.refl β).reb hdom (by rw [hV]; exact hrdom)) (h.forget (hU g0) hO (by rw [hV]; exact hOk (Ext.refl β)) hk (hw g0))

/-- A scope whose code jumps back to one label, by an invariant. -/
def scopeC {P : Program} (hm : P.follows .mixedOrders = true) (E : Env P) (hd : dfsOk E.dfs = true) (lv N : Nat) (body rest : Code) (l : Nat) (hl : findLabel body l = some rest) (U : List Nat) {G : Type} (st0 : St) (st : G → St) (inv : G → Prop) (mu : G → Nat)
    (out : Out) (fin : St) (hout : ∀ k, out ≠ .goto k) (hU0 : st0.us = U) (hU : ∀ g, (st g).us = U) (hUf : fin.us = U) (hw0 : wfSt U st0 = true) (hw : ∀ g, wfSt U (st g) = true) (hwf : wfSt U fin = true) (V : List Nat) (hV0 : nmR st0.rs = V) (hV : ∀ g, nmR (st g).rs = V) (hVf : nmR fin.rs = V)
    (step0 : StepTo P E lv N body st0 fun o S1 => (o = .goto l ∧ ∃ g', inv g' ∧ Keeps S1 (st g')) ∨ (o = out ∧ Keeps S1 fin))
    (step : ∀ g, inv g → StepTo P E lv N rest (st g) fun o S1 => (o = .goto l ∧ ∃ g', inv g' ∧ mu g' < mu g ∧ Keeps S1 (st g')) ∨ (o = out ∧ Keeps S1 fin)) : CodeC P where
  c := .scope body
  N := N
  run := fun S => match keepsL S st0 with
    | some ps => bif usIn U S.us && freeV V S.us then some (out, fin, ps) else none
    | none => none
  sound := by
    intro F n w0 B O m β S a W Q out' S' ps hF hr hp h hQ
    obtain ⟨⟨σ0, hk⟩, hus, rfl, rfl⟩ := entry_spec hr hp
    simp only [Bool.and_eq_true] at hus
    have hdom : ∀ b k, β b = some k → memN b U = true := fun b k hb => usIn_spec hus.1 b (h.dom b k hb)
    have hrdom : ∀ r p, β.r r = some p → memN r U = true ∧ memN r V = false := fun r p hp => ⟨usIn_spec hus.1 r (h.rdom r p hp), freeV_spec hus.2 (h.rdom r p hp)⟩
    have hO : ∀ b, O.o b → memN b U = true := fun b hb => let ⟨k, hk'⟩ := h.odom b hb; hdom b k hk'
    have hOk : ∀ {β' : Ren}, Ext β β' → ∀ k, O.k k → ∃ r p, β'.r r = some p ∧ p.own = true ∧ p.k = k ∧ memN r U = true ∧ memN r V = false := fun hE k hk' =>
      let ⟨r, p, h1, h2, h3⟩ := h.rodom k hk'
      ⟨r, p, hE.r r p h1, h2, h3, (hrdom r p h1).1, (hrdom r p h1).2⟩
    have done : ∀ (k : Nat) (a' : Act) (W' : World), Q out.exit' a' W' → scopeJ F n P body Q k out.exit' a' W' := by
      intro k a' W' hq
      cases out with
      | goto j => exact absurd rfl (hout j)
      | normal => cases k <;> exact hq
      | exit id => cases k <;> exact hq
      | ret => cases k <;> exact hq
      | panic v => cases k <;> exact hq
    have key : ∀ (k : Nat) (g : G) (β' : Ren) (a' : Act) (W' : World), mu g < k → inv g → Ext β β' → R β' w0 B N O m (st g) a' W' → scopeJ F n P body Q k (.goto l) a' W' := by
      intro k
      induction k with
      | zero => intro g β' a' W' hlt; omega
      | succ k ih =>
        intro g β' a' W' hlt hi hE hR
        simp only [scopeJ, hl]
        refine (step g hi).go hm hd hF hR ?_
        rintro o S1 (⟨rfl, g', hi', hmu, σ, hk'⟩ | ⟨rfl, σ, hk'⟩) β2 a2 W2 hE2 hR2
        · exact ih g' _ a2 W2 (by omega) hi' ((hE.trans hE2).reb hdom (by rw [hV]; exact hrdom)) (hR2.forget (hU g') hO (by rw [hV]; exact hOk (hE.trans hE2)) hk' (hw g'))
        · exact done _ _ _ (hQ _ a2 W2 ((hE.trans hE2).reb hdom (by rw [hVf]; exact hrdom)) (hR2.forget hUf hO (by rw [hVf]; exact hOk (hE.trans hE2)) hk' hwf))
    have hE0 : Ext β (rebind U (nmR st0.rs) σ0 β) := (Ext.refl β).reb hdom (by rw [hV0]; exact hrdom)
    have hR0 : R (rebind U (nmR st0.rs) σ0 β) w0 B N O m st0 a W := h.forget hU0 hO (by rw [hV0]; exact hOk (Ext.refl β)) hk hw0
    obtain ⟨ds, cnt, o, S1, ds1, ps, cnt1, hx, hpp, hg⟩ := step0 m
    rcases hg with ⟨rfl, g', hi', σ, hk'⟩ | ⟨rfl, σ, hk'⟩
    · refine wpIn_scope (mu g' + 1) ?_
      refine (codeN_ok hm E hd lv).go hx hpp hF (fun e => by cases e) hR0 fun β2 a2 W2 hE2 hR2 => ?_
      exact key _ g' _ a2 W2 (by omega) hi' ((hE0.trans hE2).reb hdom (by rw [hV]; exact hrdom)) (hR2.forget (hU g') hO (by rw [hV]; exact hOk (hE0.trans hE2)) hk' (hw g'))
    · refine wpIn_scope 0 ?_
      refine (codeN_ok hm E hd lv).go hx hpp hF (fun e => by cases e) hR0 fun β2 a2 W2 hE2 hR2 => ?_
      exact done _ _ _ (hQ _ a2 W2 ((hE0.trans hE2).reb hdom (by rw [hVf]; exact hrdom)) (hR2.forget hUf hO (by rw [hVf]; exact hOk (hE0.trans hE2)) hk' hwf))
end Go.Sx
