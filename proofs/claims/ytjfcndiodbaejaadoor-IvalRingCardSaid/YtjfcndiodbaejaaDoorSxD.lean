/-
  A symbolic executor for the model's code, fourth part: the relation between a symbolic state and a run, and one operation's rightness.
-/
import Derived.Test.YtjfcndiodbaejaaDoorSxC
namespace Go.Sx
open Go Go.RowKit

/-- A loop's record. -/
structure LoopR (β : Ren) (q : LoopS) (r : Loop) : Prop where
  st : r.state = q.st
  pend : r.pending = q.pend
  params : r.params = q.params.toArray
  asg : r.assign = q.asg
  body : r.body = q.body
  size : r.tmps.size = q.N
  ts : ∀ t x, look q.ts t = some x → ∃ v, den β x = some v ∧ r.tmps[t]? = some v

/-- The mark of a range over a function among an activation's deferred calls. -/
def mark (k : Nat) : Deferred := { target := .collected k, args := #[] }

/-- A frame's surroundings: the names that were there when it was entered, and what it has deferred, ahead of marks. -/
structure Fr where
  o : Nat → Prop
  k : Nat → Prop
  D : List Deferred

/-- The symbolic state S, its names read by β, is what an activation and a world hold; of what lay below B nothing has turned but what is named. m: so many marks. -/
structure R (β : Ren) (w0 : World) (B N : Nat) (O : Fr) (m : Nat) (S : St) (a : Act) (W : World) : Prop where
  ts : ∀ t x, look S.ts t = some x → ∃ v, den β x = some v ∧ a.tmps[t]? = some v
  bs : ∀ b c ty, look S.bs b = some (c, ty) → ∃ k cells, β b = some k ∧ denCt β c = some cells ∧ W.heap[k]? = some (.cells cells ty)
  ls : ∀ l q, look S.ls l = some q → ∃ k r, β l = some k ∧ W.heap[k]? = some (.loop r) ∧ LoopR β q r
  dom : ∀ b k, β b = some k → memN b S.us = true
  lt : ∀ b k, β b = some k → k < W.heap.size
  inj : ∀ b b' k, β b = some k → β b' = some k → b = b'
  glob : ∀ g k, β (gbase + g) = some k → k = g
  rs : ∀ r q, lookR S.rs r = some q → ∃ p, β.r r = some p ∧ RowR W q p
  rb : ∀ r q p, lookR S.rs r = some q → β.r r = some p → ∀ b, β b ≠ some p.k
  ro : ∀ r r' q q' p p', lookR S.rs r = some q → lookR S.rs r' = some q' → β.r r = some p → β.r r' = some p' → r ≠ r' → p.k = p'.k → q.own = false ∧ q'.own = false
  rdom : ∀ r p, β.r r = some p → memN r S.us = true
  rlt : ∀ r p, β.r r = some p → p.k < W.heap.size
  rold : ∀ r p, β.r r = some p → p.own = true → p.k < B → O.k p.k
  rodom : ∀ k, O.k k → ∃ r p, β.r r = some p ∧ p.own = true ∧ p.k = k
  rlz : ∀ x ∈ lz, ∀ r p, β.r r = some p → p.own = true → p.k ≠ x.1
  old : ∀ k, k < B → (∀ b, β b ≠ some k) → (∀ r p, β.r r = some p → p.own = true → p.k ≠ k) → W.heap[k]? = w0.heap[k]?
  nold : ∀ b k, β b = some k → k < B → O.o b
  odom : ∀ b, O.o b → ∃ k, β b = some k
  lzW : LaidG W
  lzn : ∀ x ∈ lz, ∀ b, β b ≠ some x.1
  hB : B ≤ W.heap.size
  os : W.os = w0.os
  tape : W.tape = w0.tape
  output : W.output = w0.output
  size : a.tmps.size = N
  dfr : ∃ ks : List Nat, ks.length = m ∧ a.defers = ks.map mark ++ O.D ∧ ks.Nodup ∧ ∀ k ∈ ks, B ≤ k ∧ ((∀ b, β b ≠ some k) ∧ ∀ r p, β.r r = some p → p.own = true → p.k ≠ k) ∧ W.heap[k]? = some (.deferred (some []))

/-- More names, the same meanings. -/
structure Ext (β β' : Ren) : Prop where
  b : ∀ b k, β b = some k → β' b = some k
  r : ∀ r p, β.r r = some p → β'.r r = some p
instance {β β' : Ren} : CoeFun (Ext β β') fun _ => ∀ b k, β b = some k → β' b = some k := ⟨Ext.b⟩
theorem Ext.refl (β : Ren) : Ext β β := ⟨fun _ _ h => h, fun _ _ h => h⟩
theorem Ext.trans {a b c : Ren} (h : Ext a b) (k : Ext b c) : Ext a c := ⟨fun x y e => k x y (h x y e), fun x y e => k.r x y (h.r x y e)⟩

theorem memN_cons (j : Nat) (r : List Nat) (i : Nat) : memN i (j :: r) = true ↔ j = i ∨ memN i r = true := by
  simp only [memN]
  cases h : Nat.beq j i with
  | true => simp [Nat.eq_of_beq_eq_true h]
  | false => simp [Nat.ne_of_beq_eq_false h]

theorem look_cons {α : Type} (j : Nat) (x : α) (r : List (Nat × α)) (i : Nat) : look ((j, x) :: r) i = if j = i then some x else look r i := by
  simp only [look]
  cases h : Nat.beq j i with
  | true => simp [Nat.eq_of_beq_eq_true h]
  | false => simp [Nat.ne_of_beq_eq_false h]

section mono
variable {β β' : Ren}
theorem adr_mono (hm : Ext β β') {p : Nat × Nat} {v : Value} (h : adr β p = some v) : adr β' p = some v := by
  simp only [adr, Option.map_eq_some_iff] at h ⊢
  obtain ⟨k, hk, rfl⟩ := h
  exact ⟨k, hm _ _ hk, rfl⟩
theorem adrs_mono (hm : Ext β β') : ∀ {l : List (Nat × Nat)} {vs : List Value}, adrs β l = some vs → adrs β' l = some vs
  | [], vs, h => h
  | p :: r, vs, h => by
    simp only [adrs] at h ⊢
    split at h
    · rename_i v l hv hl
      rw [adr_mono hm hv, adrs_mono hm hl]
      exact h
    · cases h
theorem denT_mono (hm : Ext β β') {x : TV} {v : Value} (h : denT β x = some v) : denT β' x = some v := by
  cases x with
  | v y => exact h
  | row r =>
    simp only [denT, Option.map_eq_some_iff] at h ⊢
    obtain ⟨k, hk, rfl⟩ := h
    exact ⟨k, hm.r _ _ hk, rfl⟩
theorem denTs_mono (hm : Ext β β') : ∀ {l : List TV} {vs : List Value}, denTs β l = some vs → denTs β' l = some vs
  | [], vs, h => h
  | p :: r, vs, h => by
    simp only [denTs] at h ⊢
    split at h
    · rename_i v l hv hl
      rw [denT_mono hm hv, denTs_mono hm hl]
      exact h
    · cases h
theorem den_mono (hm : Ext β β') {x : SV} {v : Value} (h : den β x = some v) : den β' x = some v := by
  cases x with
  | v y => exact h
  | ptr b o => exact adr_mono hm h
  | fn f c =>
    simp only [den] at h ⊢
    split at h
    · rename_i l hl; rw [adrs_mono hm hl]; exact h
    · cases h
  | yld l =>
    simp only [den, Option.map_eq_some_iff] at h ⊢
    obtain ⟨k, hk, rfl⟩ := h
    exact ⟨k, hm _ _ hk, rfl⟩
  | sl b o n c =>
    simp only [den, Option.map_eq_some_iff] at h ⊢
    obtain ⟨k, hk, rfl⟩ := h
    exact ⟨k, hm _ _ hk, rfl⟩
  | row r =>
    simp only [den, Option.map_eq_some_iff] at h ⊢
    obtain ⟨k, hk, rfl⟩ := h
    exact ⟨k, hm.r _ _ hk, rfl⟩
  | rp r j o sz =>
    simp only [den, Option.map_eq_some_iff] at h ⊢
    obtain ⟨k, hk, rfl⟩ := h
    exact ⟨k, hm.r _ _ hk, rfl⟩
  | mix t l =>
    simp only [den, Option.map_eq_some_iff] at h ⊢
    obtain ⟨k, hk, rfl⟩ := h
    exact ⟨k, denTs_mono hm hk, rfl⟩
theorem dens_mono (hm : Ext β β') : ∀ {l : List SV} {vs : List Value}, dens β l = some vs → dens β' l = some vs
  | [], vs, h => h
  | p :: r, vs, h => by
    simp only [dens] at h ⊢
    split at h
    · rename_i v l hv hl
      rw [den_mono hm hv, dens_mono hm hl]
      exact h
    · cases h
theorem denCt_mono (hm : Ext β β') {c : Ct} {cells : Array Value} (h : denCt β c = some cells) : denCt β' c = some cells := by
  cases c with
  | whole x => exact h
  | parts l =>
    simp only [denCt] at h ⊢
    split at h
    · rename_i vs hv; rw [dens_mono hm hv]; exact h
    · cases h
theorem LoopR.mono (hm : Ext β β') {q : LoopS} {r : Loop} (h : LoopR β q r) : LoopR β' q r :=
  { h with ts := fun t x hx => by obtain ⟨v, hv, ht⟩ := h.ts t x hx; exact ⟨v, den_mono hm hv, ht⟩ }
end mono

section steps
variable {β : Ren} {w0 : World} {B N : Nat} {O : Fr} {m : Nat} {S : St} {a : Act} {W : World}

/-- A temporary is written. -/
theorem R.putT (h : R β w0 B N O m S a W) {d : Nat} {x : SV} {v : Value} (hx : den β x = some v) (hd : d < N) : R β w0 B N O m (S.put (.t d x)) (a.put (some d) v) W :=
  { h with
    ts := fun t y hy => by
      simp only [St.put] at hy
      rw [look_cons] at hy
      have hsz : d < a.tmps.size := by rw [h.size]; exact hd
      by_cases e : d = t
      · subst e
        simp only [if_true, Option.some.injEq] at hy
        subst hy
        exact ⟨v, hx, by simp [Act.put, hsz]⟩
      · rw [if_neg e] at hy
        obtain ⟨u, hu, hg⟩ := h.ts t y hy
        exact ⟨u, hu, by simp [Act.put, Array.getElem?_setIfInBounds_ne e, hg]⟩
    size := by simp [Act.put, h.size]
    dfr := h.dfr }

theorem Below.heap_alloc' (w : World) (o : Obj) {k : Nat} {x : Obj} (h : w.heap[k]? = some x) : (w.alloc o).heap[k]? = some x :=
  (Below.heap_alloc w o k (Array.getElem?_eq_some_iff.1 h).1).trans h

theorem heap_alloc_new (w : World) (o : Obj) : (w.alloc o).heap[w.heap.size]? = some o := by
  show (w.heap.push o)[w.heap.size]? = some o
  simp

/-- A new block under a new name. -/
theorem R.newObj (h : R β w0 B N O m S a W) {nm : Nat} (o : Obj) (hn : memN nm S.us = false) (hg : nm < gbase) :
    Ext β ⟨fun b => if b = nm then some W.heap.size else β b, β.r⟩ ∧ R ⟨fun b => if b = nm then some W.heap.size else β b, β.r⟩ w0 B N O m { S with us := nm :: S.us } a (W.alloc o) := by
  have hβ : β nm = none := by
    cases hb : β nm with
    | none => rfl
    | some k => have := h.dom nm k hb; rw [hn] at this; cases this
  have hm : Ext β ⟨fun b => if b = nm then some W.heap.size else β b, β.r⟩ := ⟨fun b k hb => by
    by_cases e : b = nm
    · subst e; rw [hβ] at hb; cases hb
    · show (if b = nm then some W.heap.size else β b) = some k
      rw [if_neg e]; exact hb, fun _ _ h => h⟩
  have sh : ∀ b, (⟨fun b => if b = nm then some W.heap.size else β b, β.r⟩ : Ren) b = if b = nm then some W.heap.size else β b := fun _ => rfl
  refine ⟨hm, ?_⟩
  exact {
    rs := fun r q hr => by
      obtain ⟨p, hp, hw⟩ := h.rs r q hr
      exact ⟨p, hp, hw.keep (Below.heap_alloc _ _ _ (h.rlt r p hp))⟩
    rb := fun r q p hr hp b hb => by
      rw [sh] at hb
      by_cases e : b = nm
      · rw [if_pos e] at hb
        have := h.rlt r p hp
        simp only [Option.some.injEq] at hb
        omega
      · rw [if_neg e] at hb; exact h.rb r q p hr hp b hb
    ro := h.ro
    rdom := fun r p hp => by rw [memN_cons]; exact .inr (h.rdom r p hp)
    rlt := fun r p hp => by rw [World.size_alloc]; have := h.rlt r p hp; omega
    rold := h.rold
    rodom := h.rodom
    rlz := h.rlz
    ts := fun t x hx => by obtain ⟨v, hv, ht⟩ := h.ts t x hx; exact ⟨v, den_mono hm hv, ht⟩
    bs := fun b c' ty' hb => by
      obtain ⟨k, cs, hk, hcs, hh⟩ := h.bs b c' ty' hb
      exact ⟨k, cs, hm _ _ hk, denCt_mono hm hcs, Below.heap_alloc' _ _ hh⟩
    ls := fun l q hl => by
      obtain ⟨k, r, hk, hh, hr⟩ := h.ls l q hl
      exact ⟨k, r, hm _ _ hk, Below.heap_alloc' _ _ hh, hr.mono hm⟩
    dom := fun b k hb => by
      rw [sh] at hb
      rw [memN_cons]
      by_cases e : b = nm
      · exact .inl e.symm
      · rw [if_neg e] at hb; exact .inr (h.dom b k hb)
    lt := fun b k hb => by
      rw [sh] at hb
      rw [World.size_alloc]
      by_cases e : b = nm
      · rw [if_pos e] at hb; cases hb; omega
      · rw [if_neg e] at hb; have := h.lt b k hb; omega
    inj := fun b b' k hb hb' => by
      rw [sh] at hb hb'
      by_cases e : b = nm <;> by_cases e' : b' = nm
      · rw [e, e']
      · rw [if_pos e] at hb; rw [if_neg e'] at hb'; cases hb; exact absurd (h.lt b' _ hb') (Nat.lt_irrefl _)
      · rw [if_neg e] at hb; rw [if_pos e'] at hb'; cases hb'; exact absurd (h.lt b _ hb) (Nat.lt_irrefl _)
      · rw [if_neg e] at hb; rw [if_neg e'] at hb'; exact h.inj b b' k hb hb'
    glob := fun g k hb => by
      rw [sh] at hb
      rw [if_neg (by omega)] at hb
      exact h.glob g k hb
    old := fun k hk hb hr => by
      rw [Below.heap_alloc _ _ _ (by have := h.hB; omega)]
      exact h.old k hk (fun b hb' => hb b (hm b k hb')) hr
    nold := fun b k hb hk => by
      rw [sh] at hb
      by_cases e : b = nm
      · rw [if_pos e] at hb; cases hb; have := h.hB; omega
      · rw [if_neg e] at hb; exact h.nold b k hb hk
    odom := fun b hb => let ⟨k, hk⟩ := h.odom b hb; ⟨k, hm b k hk⟩
    lzW := fun x hx => let ⟨ty, hz⟩ := h.lzW x hx; ⟨ty, Below.heap_alloc' _ _ hz⟩
    lzn := fun x hx b hb => by
      rw [sh] at hb
      by_cases e : b = nm
      · rw [if_pos e] at hb
        have hb : W.heap.size = x.1 := Option.some.inj hb
        obtain ⟨ty, hz⟩ := h.lzW x hx
        have := (Array.getElem?_eq_some_iff.1 hz).1
        omega
      · rw [if_neg e] at hb; exact h.lzn x hx b hb
    hB := by rw [World.size_alloc]; have := h.hB; omega
    os := h.os
    tape := h.tape
    output := h.output
    size := h.size
    dfr := by
      obtain ⟨ks, h1, h2, h3, h4⟩ := h.dfr
      refine ⟨ks, h1, h2, h3, fun k hk => ?_⟩
      obtain ⟨g1, g2, g3⟩ := h4 k hk
      refine ⟨g1, ⟨fun b hb => ?_, g2.2⟩, Below.heap_alloc' _ _ g3⟩
      rw [sh] at hb
      by_cases e : b = nm
      · rw [if_pos e] at hb; cases hb; exact absurd (Array.getElem?_eq_some_iff.1 g3).1 (Nat.lt_irrefl _)
      · rw [if_neg e] at hb; exact g2.1 b hb }

/-- A new block of cells. -/
theorem R.new (h : R β w0 B N O m S a W) {nm : Nat} {c : Ct} {cells : Array Value} {ty : TypeId} (hc : denCt β c = some cells) (hn : memN nm S.us = false) (hg : nm < gbase) :
    ∃ β', Ext β β' ∧ β' nm = some W.heap.size ∧ R β' w0 B N O m (S.puts [.u nm, .b nm c ty]) a (W.alloc (.cells cells ty)) := by
  obtain ⟨hm, hR⟩ := h.newObj (.cells cells ty) hn hg
  refine ⟨_, hm, by simp, ?_⟩
  exact { hR with
    bs := fun b c' ty' hb => by
      simp only [St.puts, St.put] at hb
      rw [look_cons] at hb
      by_cases e : nm = b
      · subst e
        simp only [if_true, Option.some.injEq, Prod.mk.injEq] at hb
        obtain ⟨rfl, rfl⟩ := hb
        exact ⟨W.heap.size, cells, by simp, denCt_mono hm hc, heap_alloc_new _ _⟩
      · rw [if_neg e] at hb
        exact hR.bs b c' ty' hb
    ts := hR.ts
    ls := hR.ls
    dom := hR.dom
    rdom := hR.rdom
    rs := hR.rs
    rb := hR.rb
    ro := hR.ro
    dfr := hR.dfr }

/-- Into block k of a named thing something else is laid; nothing else is turned. -/
theorem R.turnObj (h : R β w0 B N O m S a W) {b k : Nat} {o' : Obj} {W' : World} (hk : β b = some k) (hsz : W'.heap.size = W.heap.size)
    (hoth : ∀ j, j ≠ k → W'.heap[j]? = W.heap[j]?) (hnew : W'.heap[k]? = some o') (hos : W'.os = W.os) (htp : W'.tape = W.tape) (hout : W'.output = W.output) {bs' : List (Nat × (Ct × TypeId))} {ls' : List (Nat × LoopS)}
    (hbs : ∀ b2 q, look bs' b2 = some q → b2 ≠ b → look S.bs b2 = some q) (hls : ∀ b2 q, look ls' b2 = some q → b2 ≠ b → look S.ls b2 = some q)
    (hb : ∀ c ty, look bs' b = some (c, ty) → ∃ cells, denCt β c = some cells ∧ o' = .cells cells ty) (hl : ∀ q, look ls' b = some q → ∃ r, o' = .loop r ∧ LoopR β q r) :
    R β w0 B N O m { S with bs := bs', ls := ls' } a W' :=
  { h with
    ts := h.ts
    bs := fun b2 c2 ty2 hq => by
      by_cases e : b2 = b
      · subst e
        obtain ⟨cells, hc, rfl⟩ := hb c2 ty2 hq
        exact ⟨k, cells, hk, hc, hnew⟩
      · obtain ⟨k2, cs, hk2, hcs, hh2⟩ := h.bs b2 c2 ty2 (hbs _ _ hq e)
        exact ⟨k2, cs, hk2, hcs, by rw [hoth k2 (fun e' => e (h.inj b2 b k (by rw [← e']; exact hk2) hk))]; exact hh2⟩
    ls := fun l q hq => by
      by_cases e : l = b
      · subst e
        obtain ⟨r, rfl, hr⟩ := hl q hq
        exact ⟨k, r, hk, hnew, hr⟩
      · obtain ⟨k2, r, hk2, hh2, hr⟩ := h.ls l q (hls _ _ hq e)
        exact ⟨k2, r, hk2, by rw [hoth k2 (fun e' => e (h.inj l b k (by rw [← e']; exact hk2) hk))]; exact hh2, hr⟩
    dom := h.dom
    lt := fun b2 k2 h2 => by rw [hsz]; exact h.lt b2 k2 h2
    rs := fun r q hr => by
      obtain ⟨p, hp, hw⟩ := h.rs r q hr
      exact ⟨p, hp, hw.keep (hoth p.k (fun e => h.rb r q p hr hp b (by rw [hk, e])))⟩
    rb := h.rb
    ro := h.ro
    rdom := h.rdom
    rlt := fun r p hp => by rw [hsz]; exact h.rlt r p hp
    old := fun k2 hk2 hb2 hr2 => by
      rw [hoth k2 (fun e => hb2 b (by rw [hk, e]))]; exact h.old k2 hk2 hb2 hr2
    lzW := fun x hx => by rw [hoth x.1 (fun e => h.lzn x hx b (by rw [hk, e]))]; exact h.lzW x hx
    hB := by rw [hsz]; exact h.hB
    os := hos.trans h.os
    tape := htp.trans h.tape
    output := hout.trans h.output
    dfr := by
      obtain ⟨ks, h1, h2, h3, h4⟩ := h.dfr
      refine ⟨ks, h1, h2, h3, fun k2 hk2 => ?_⟩
      obtain ⟨g1, g2, g3⟩ := h4 k2 hk2
      exact ⟨g1, g2, by rw [hoth k2 (fun e => g2.1 b (by rw [hk, e]))]; exact g3⟩ }

/-- A named block holds something else. -/
theorem R.turn (h : R β w0 B N O m S a W) {b k : Nat} {c' : Ct} {cells cells' : Array Value} {ty : TypeId} (hk : β b = some k) (hh : W.heap[k]? = some (.cells cells ty)) (hc' : denCt β c' = some cells') :
    R β w0 B N O m (S.put (.b b c' ty)) a (W.setRow k cells') := by
  refine h.turnObj (bs' := (b, (c', ty)) :: S.bs) (ls' := S.ls) hk (setRow_size _ _ _) (fun j hj => setRow_other _ _ _ _ hj) (setRow_heap W k cells cells' ty _ hh) rfl rfl rfl ?_ (fun _ _ hq _ => hq) ?_ ?_
  · intro b2 q hq hne
    rw [look_cons, if_neg (Ne.symm hne)] at hq
    exact hq
  · intro c ty2 hq
    rw [look_cons, if_pos rfl] at hq
    simp only [Option.some.injEq, Prod.mk.injEq] at hq
    obtain ⟨rfl, rfl⟩ := hq
    exact ⟨cells', hc', rfl⟩
  · intro q hq
    obtain ⟨k2, r, hk2, hh2, _⟩ := h.ls b q hq
    rw [hk] at hk2
    cases hk2
    rw [hh] at hh2
    cases hh2

/-- What lay there lies there still; there may be more. -/
theorem R.below (h : R β w0 B N O m S a W) {W' : World} (hb : Below W.heap.size W W') : R β w0 B N O m S a W' :=
  have keep : ∀ {k : Nat} {o : Obj}, W.heap[k]? = some o → W'.heap[k]? = some o := fun hh => (hb.block _ (Array.getElem?_eq_some_iff.1 hh).1).trans hh
  { h with
    ts := h.ts
    bs := fun b c ty hq => by
      obtain ⟨k, cs, hk, hcs, hh⟩ := h.bs b c ty hq
      exact ⟨k, cs, hk, hcs, keep hh⟩
    ls := fun l q hq => by
      obtain ⟨k, r, hk, hh, hr⟩ := h.ls l q hq
      exact ⟨k, r, hk, keep hh, hr⟩
    lt := fun b k hk => Nat.lt_of_lt_of_le (h.lt b k hk) hb.size
    rs := fun r q hr => by
      obtain ⟨p, hp, hw⟩ := h.rs r q hr
      exact ⟨p, hp, hw.keep (hb.block _ (h.rlt r p hp))⟩
    rlt := fun r p hp => Nat.lt_of_lt_of_le (h.rlt r p hp) hb.size
    old := fun k hk hn hr => (hb.block k (by have := h.hB; omega)).trans (h.old k hk hn hr)
    lzW := fun x hx => let ⟨ty, hz⟩ := h.lzW x hx; ⟨ty, keep hz⟩
    hB := Nat.le_trans h.hB hb.size
    os := hb.os.trans h.os
    tape := hb.tape.trans h.tape
    output := hb.output.trans h.output
    dfr := by
      obtain ⟨ks, h1, h2, h3, h4⟩ := h.dfr
      refine ⟨ks, h1, h2, h3, fun k2 hk2 => ?_⟩
      obtain ⟨g1, g2, g3⟩ := h4 k2 hk2
      exact ⟨g1, g2, keep g3⟩ }

theorem R.drew (h : R β w0 B N O m S a W) : R β w0 B N O m S a { W with drawn := W.drawn + 1 } := h.below ⟨rfl, rfl, rfl, Nat.le_refl _, fun _ _ => rfl⟩

/-! ### Rows -/
theorem lookR_cons (j : Nat) (x : Option RowS) (r : List (Nat × Option RowS)) (i : Nat) : lookR ((j, x) :: r) i = if j = i then x else lookR r i := by
  unfold lookR
  rw [look_cons]
  by_cases e : j = i
  · simp only [if_pos e]; cases x <;> rfl
  · simp only [if_neg e]

/-- A row under a new name; its block is new, or it is unnamed and no live row that may be written lies in it. -/
theorem R.newRow (h : R β w0 B N O m S a W) {nm : Nat} {q : RowS} {p : RP} {W' : World} (hn : memN nm S.us = false) (hq : RowR W' q p) (hos : W'.os = W.os) (htp : W'.tape = W.tape) (hout : W'.output = W.output) (hsz : W.heap.size ≤ W'.heap.size)
    {rs' : List (Nat × Option RowS)} (hrs : ∀ r x, lookR rs' r = some x → (∃ y, lookR S.rs r = some y ∧ (x = y ∨ x = { y with own := false })))
    (hblk : ∀ k, k < W.heap.size → W'.heap[k]? = W.heap[k]? ∨ ((∃ r p', β.r r = some p' ∧ p'.own = true ∧ p'.k = k) ∧ (∀ r x p', lookR rs' r = some x → β.r r = some p' → p'.k ≠ k) ∧ ∀ b, β b ≠ some k))
    (hpk : p.k < W'.heap.size) (hpo : p.own = true → p.k < W.heap.size → ∃ r p', β.r r = some p' ∧ p'.own = true ∧ p'.k = p.k) (hpb : ∀ b, β b ≠ some p.k)
    (hro : ∀ r x p', lookR rs' r = some x → β.r r = some p' → p'.k = p.k → x.own = false ∧ q.own = false) :
    Ext β ⟨β.b, fun i => if i = nm then some p else β.r i⟩ ∧ R ⟨β.b, fun i => if i = nm then some p else β.r i⟩ w0 B N O m { S with us := nm :: S.us, rs := (nm, some q) :: rs' } a W' := by
  have hβ : β.r nm = none := by
    cases hb : β.r nm with
    | none => rfl
    | some k => have := h.rdom nm k hb; rw [hn] at this; cases this
  have hm : Ext β ⟨β.b, fun i => if i = nm then some p else β.r i⟩ := ⟨fun _ _ h => h, fun i x hi => by
    show (if i = nm then some p else β.r i) = some x
    by_cases e : i = nm
    · subst e; rw [hβ] at hi; cases hi
    · rw [if_neg e]; exact hi⟩
  have sh : ∀ i, (⟨β.b, fun i => if i = nm then some p else β.r i⟩ : Ren).r i = if i = nm then some p else β.r i := fun _ => rfl
  have keepB : ∀ {b k : Nat}, β b = some k → W'.heap[k]? = W.heap[k]? := fun {b k} hb => by
    rcases hblk k (h.lt b k hb) with e | e
    · exact e
    · exact absurd hb (e.2.2 b)
  have old' : ∀ {r : Nat} {x : RowS}, r ≠ nm → lookR ((nm, some q) :: rs') r = some x → lookR rs' r = some x := fun hne hx => by
    rw [lookR_cons, if_neg (Ne.symm hne)] at hx; exact hx
  refine ⟨hm, ?_⟩
  exact {
    ts := fun t x hx => by obtain ⟨v, hv, ht⟩ := h.ts t x hx; exact ⟨v, den_mono hm hv, ht⟩
    bs := fun b c ty hb => by
      obtain ⟨k, cs, hk, hcs, hh⟩ := h.bs b c ty hb
      exact ⟨k, cs, hk, denCt_mono hm hcs, (keepB hk).trans hh⟩
    ls := fun l q hl => by
      obtain ⟨k, r, hk, hh, hr⟩ := h.ls l q hl
      exact ⟨k, r, hk, (keepB hk).trans hh, hr.mono hm⟩
    dom := fun b k hb => by rw [memN_cons]; exact .inr (h.dom b k hb)
    lt := fun b k hb => Nat.lt_of_lt_of_le (h.lt b k hb) hsz
    inj := h.inj
    glob := h.glob
    rs := fun r x hx => by
      rw [lookR_cons] at hx
      by_cases e : nm = r
      · rw [if_pos e] at hx
        simp only [Option.some.injEq] at hx
        subst hx
        exact ⟨p, by rw [sh, if_pos e.symm], hq⟩
      · rw [if_neg e] at hx
        obtain ⟨y, hy, hxy⟩ := hrs r x hx
        obtain ⟨p', hp', hw⟩ := h.rs r y hy
        refine ⟨p', by rw [sh, if_neg (Ne.symm e)]; exact hp', ?_⟩
        have hk : W'.heap[p'.k]? = W.heap[p'.k]? := by
          rcases hblk p'.k (h.rlt r p' hp') with e | e
          · exact e
          · exact absurd rfl (e.2.1 r x p' hx hp')
        rcases hxy with rfl | rfl
        · exact hw.keep hk
        · exact hw.alien.keep hk
    rb := fun r x p' hx hp' b => by
      rw [lookR_cons] at hx
      rw [sh] at hp'
      by_cases e : nm = r
      · rw [if_pos e.symm] at hp'
        simp only [Option.some.injEq] at hp'
        subst hp'
        exact hpb b
      · rw [if_neg e] at hx
        rw [if_neg (Ne.symm e)] at hp'
        obtain ⟨y, hy, _⟩ := hrs r x hx
        exact h.rb r y p' hy hp' b
    ro := fun r r' x x' p1 p2 hx hx' hp1 hp2 hne hk => by
      rw [lookR_cons] at hx hx'
      rw [sh] at hp1 hp2
      by_cases e : nm = r
      · subst e
        rw [if_pos rfl] at hx hp1
        rw [if_neg hne] at hx'
        rw [if_neg (Ne.symm hne)] at hp2
        simp only [Option.some.injEq] at hx hp1
        subst hx
        subst hp1
        exact (hro r' x' p2 hx' hp2 hk.symm).symm
      · rw [if_neg e] at hx
        rw [if_neg (Ne.symm e)] at hp1
        by_cases e' : nm = r'
        · subst e'
          rw [if_pos rfl] at hx' hp2
          simp only [Option.some.injEq] at hx' hp2
          subst hx'
          subst hp2
          exact hro r x p1 hx hp1 hk
        · rw [if_neg e'] at hx'
          rw [if_neg (Ne.symm e')] at hp2
          obtain ⟨y, hy, hxy⟩ := hrs r x hx
          obtain ⟨y', hy', hxy'⟩ := hrs r' x' hx'
          obtain ⟨g1, g2⟩ := h.ro r r' y y' p1 p2 hy hy' hp1 hp2 hne hk
          refine ⟨?_, ?_⟩
          · rcases hxy with rfl | rfl <;> first | exact g1 | rfl
          · rcases hxy' with rfl | rfl <;> first | exact g2 | rfl
    rdom := fun r p' hp' => by
      rw [sh] at hp'
      rw [memN_cons]
      by_cases e : r = nm
      · exact .inl e.symm
      · rw [if_neg e] at hp'; exact .inr (h.rdom r p' hp')
    rlt := fun r p' hp' => by
      rw [sh] at hp'
      by_cases e : r = nm
      · rw [if_pos e] at hp'; simp only [Option.some.injEq] at hp'; subst hp'; exact hpk
      · rw [if_neg e] at hp'; exact Nat.lt_of_lt_of_le (h.rlt r p' hp') hsz
    rold := fun r p' hp' ho hlt => by
      rw [sh] at hp'
      by_cases e : r = nm
      · rw [if_pos e] at hp'; simp only [Option.some.injEq] at hp'; subst hp'
        obtain ⟨r0, p0, h1, h2, h3⟩ := hpo ho (Nat.lt_of_lt_of_le hlt h.hB)
        rw [← h3]
        exact h.rold r0 p0 h1 h2 (by rw [h3]; exact hlt)
      · rw [if_neg e] at hp'; exact h.rold r p' hp' ho hlt
    rodom := fun k hk => by
      obtain ⟨r0, p0, h1, h2, h3⟩ := h.rodom k hk
      exact ⟨r0, p0, hm.r _ _ h1, h2, h3⟩
    rlz := fun x hx r p' hp' ho => by
      rw [sh] at hp'
      by_cases e : r = nm
      · rw [if_pos e] at hp'; simp only [Option.some.injEq] at hp'; subst hp'
        rcases Nat.lt_or_ge p.k W.heap.size with hlt | hge
        · obtain ⟨r0, p0, h1, h2, h3⟩ := hpo ho hlt
          rw [← h3]
          exact h.rlz x hx r0 p0 h1 h2
        · intro e2
          obtain ⟨ty, hz⟩ := h.lzW x hx
          have := (Array.getElem?_eq_some_iff.1 hz).1
          omega
      · rw [if_neg e] at hp'; exact h.rlz x hx r p' hp' ho
    old := fun k hk hb hr => by
      have h1 : ∀ r p', β.r r = some p' → p'.own = true → p'.k ≠ k := fun r p' hp' => hr r p' (hm.r _ _ hp')
      have hlt : k < W.heap.size := Nat.lt_of_lt_of_le hk h.hB
      rcases hblk k hlt with e | e
      · exact e.trans (h.old k hk hb h1)
      · obtain ⟨⟨r0, p0, g1, g2, g3⟩, _⟩ := e
        exact absurd g3 (h1 r0 p0 g1 g2)
    nold := h.nold
    odom := h.odom
    lzW := fun x hx => by
      obtain ⟨ty, hz⟩ := h.lzW x hx
      have hlt := (Array.getElem?_eq_some_iff.1 hz).1
      rcases hblk x.1 hlt with e | e
      · exact ⟨ty, e.trans hz⟩
      · obtain ⟨⟨r0, p0, g1, g2, g3⟩, _⟩ := e
        exact absurd g3 (h.rlz x hx r0 p0 g1 g2)
    lzn := h.lzn
    hB := Nat.le_trans h.hB hsz
    os := hos.trans h.os
    tape := htp.trans h.tape
    output := hout.trans h.output
    size := h.size
    dfr := by
      obtain ⟨ks, h1, h2, h3, h4⟩ := h.dfr
      refine ⟨ks, h1, h2, h3, fun k hk => ?_⟩
      obtain ⟨g1, g2, g3⟩ := h4 k hk
      have hlt := (Array.getElem?_eq_some_iff.1 g3).1
      refine ⟨g1, ⟨g2.1, fun r p' hp' ho => ?_⟩, ?_⟩
      · rw [sh] at hp'
        by_cases e : r = nm
        · rw [if_pos e] at hp'; simp only [Option.some.injEq] at hp'; subst hp'
          intro e2
          obtain ⟨r0, p0, f1, f2, f3⟩ := hpo ho (by omega)
          exact g2.2 r0 p0 f1 f2 (by omega)
        · rw [if_neg e] at hp'; exact g2.2 r p' hp' ho
      · rcases hblk k hlt with e | e
        · exact e.trans g3
        · obtain ⟨⟨r0, p0, f1, f2, f3⟩, _⟩ := e
          exact absurd f3 (g2.2 r0 p0 f1 f2) }

/-! ### Operands -/
theorem rdT_run {t : Nat} {x : SV} {rd : List Loc} (h : R β w0 B N O m S a W) (hr : (rdT t).run S = some (x, rd)) : ∃ v, den β x = some v ∧ a.tmps[t]? = some v := by
  unfold rdT at hr
  simp only [Rd.run, St.get] at hr
  cases hl : look S.ts t with
  | none => simp [hl, Rd.run] at hr
  | some y =>
    simp only [hl, Rd.run, Option.some.injEq, Prod.mk.injEq] at hr
    obtain ⟨rfl, _⟩ := hr
    exact h.ts t y hl

theorem rdB_run {b : Nat} {q : Ct × TypeId} {rd : List Loc} (hr : (rdB b).run S = some (q, rd)) : look S.bs b = some q := by
  unfold rdB at hr
  simp only [Rd.run, St.get] at hr
  cases hl : look S.bs b with
  | none => simp [hl, Rd.run] at hr
  | some y =>
    obtain ⟨c, ty⟩ := y
    simp only [hl, Rd.run, Option.some.injEq, Prod.mk.injEq] at hr
    obtain ⟨rfl, _⟩ := hr
    rfl

theorem rdR_run {r : Nat} {q : RowS} {rd : List Loc} (hr : (rdR r).run S = some (q, rd)) : lookR S.rs r = some q := by
  unfold rdR at hr
  simp only [Rd.run, St.get] at hr
  cases hl : lookR S.rs r with
  | none => simp [hl, Rd.run] at hr
  | some y =>
    simp only [hl, Rd.run, Option.some.injEq, Prod.mk.injEq] at hr
    obtain ⟨rfl, _⟩ := hr
    rfl

theorem rdX_run {x : Operand} {y : SV} {rd : List Loc} (h : R β w0 B N O m S a W) (hr : (rdX x).run S = some (y, rd)) : den β y = some (a.eval x) := by
  cases x with
  | tmp t =>
    obtain ⟨v, hv, ht⟩ := rdT_run h hr
    rw [hv]
    obtain ⟨h1, h2⟩ := Array.getElem?_eq_some_iff.1 ht
    simp [Act.eval, Array.getD, h1, h2]
  | const c => simp only [rdX, Rd.run, Option.some.injEq, Prod.mk.injEq] at hr; obtain ⟨rfl, _⟩ := hr; rfl
  | func f => simp only [rdX, Rd.run, Option.some.injEq, Prod.mk.injEq] at hr; obtain ⟨rfl, _⟩ := hr; rfl
  | global g =>
    obtain ⟨q, rd1, rd2, h1, h2⟩ := Rd.run_bind hr
    simp only [Rd.run, Option.some.injEq, Prod.mk.injEq] at h2
    obtain ⟨rfl, _⟩ := h2
    obtain ⟨c, ty⟩ := q
    obtain ⟨k, cs, hk, _, _⟩ := h.bs _ _ _ (rdB_run h1)
    have := h.glob g k hk
    subst this
    simp [den, adr, hk, Act.eval]

theorem rdV_run {x : Operand} {y : Value} {rd : List Loc} (h : R β w0 B N O m S a W) (hr : (rdV x).run S = some (y, rd)) : a.eval x = y := by
  obtain ⟨z, rd1, rd2, h1, h2⟩ := Rd.run_bind hr
  have hd := rdX_run h h1
  split at h2
  · simp only [Rd.run, Option.some.injEq, Prod.mk.injEq] at h2
    obtain ⟨rfl, _⟩ := h2
    simpa [den] using hd.symm
  · simp only [Rd.run, Option.some.injEq, Prod.mk.injEq] at h2
    obtain ⟨rfl, _⟩ := h2
    simpa [den, adrs] using hd.symm
  · cases h2

theorem rdVs_run : ∀ {xs : List Operand} {vs : List Value} {rd : List Loc}, R β w0 B N O m S a W → (rdVs xs).run S = some (vs, rd) → vs = xs.map a.eval
  | [], vs, rd, _, hr => by simp only [rdVs, Rd.run, Option.some.injEq, Prod.mk.injEq] at hr; exact hr.1.symm
  | x :: r, vs, rd, h, hr => by
    obtain ⟨v, rd1, rd2, h1, h2⟩ := Rd.run_bind hr
    obtain ⟨l, rd3, rd4, h3, h4⟩ := Rd.run_bind h2
    simp only [Rd.run, Option.some.injEq, Prod.mk.injEq] at h4
    obtain ⟨rfl, _⟩ := h4
    simp [rdV_run h h1, rdVs_run h h3]

theorem rho_eval (a : Act) : ∀ (xs : List Operand) (x : Operand), x ∈ xs → rho xs (xs.map a.eval) x = a.eval x
  | [], x, hx => by simp at hx
  | y :: r, x, hx => by
    have rest : ∀ x, x ∈ r → rho r (r.map a.eval) x = a.eval x := fun x hx => rho_eval a r x hx
    cases y with
    | tmp t =>
      simp only [List.map_cons, rho]
      cases x with
      | tmp u =>
        simp only
        cases hb : Nat.beq t u with
        | true => have := Nat.eq_of_beq_eq_true hb; subst this; rfl
        | false =>
          simp only [cond_false]
          refine rest _ ?_
          rcases List.mem_cons.1 hx with e | e
          · have := Nat.ne_of_beq_eq_false hb; simp only [Operand.tmp.injEq] at e; exact absurd e.symm this
          · exact e
      | _ => rfl
    | const c =>
      simp only [List.map_cons, rho]
      by_cases hr : x ∈ r
      · exact rest x hr
      · have e : x = .const c := (List.mem_cons.1 hx).resolve_right hr
        subst e
        clear hx hr rest
        induction r with
        | nil => rfl
        | cons z r ih => cases z <;> simp only [List.map_cons, rho] <;> first | rfl | exact ih
    | func f =>
      simp only [List.map_cons, rho]
      by_cases hr : x ∈ r
      · exact rest x hr
      · have e : x = .func f := (List.mem_cons.1 hx).resolve_right hr
        subst e
        clear hx hr rest
        induction r with
        | nil => rfl
        | cons z r ih => cases z <;> simp only [List.map_cons, rho] <;> first | rfl | exact ih
    | global g =>
      simp only [List.map_cons, rho]
      by_cases hr : x ∈ r
      · exact rest x hr
      · have e : x = .global g := (List.mem_cons.1 hx).resolve_right hr
        subst e
        clear hx hr rest
        induction r with
        | nil => rfl
        | cons z r ih => cases z <;> simp only [List.map_cons, rho] <;> first | rfl | exact ih

theorem capsOf_run : ∀ {xs : List Operand} {l : List (Nat × Nat)} {rd : List Loc}, R β w0 B N O m S a W → (capsOf xs).run S = some (l, rd) → adrs β l = some (xs.map a.eval)
  | [], l, rd, _, hr => by simp only [capsOf, Rd.run, Option.some.injEq, Prod.mk.injEq] at hr; rw [← hr.1]; rfl
  | x :: r, l, rd, h, hr => by
    obtain ⟨y, rd1, rd2, h1, h2⟩ := Rd.run_bind hr
    have hd := rdX_run h h1
    split at h2
    · rename_i b o
      obtain ⟨l', rd3, rd4, h3, h4⟩ := Rd.run_bind h2
      simp only [Rd.run, Option.some.injEq, Prod.mk.injEq] at h4
      obtain ⟨rfl, _⟩ := h4
      simp only [den] at hd
      simp [adrs, hd, capsOf_run h h3]
    · cases h2
end steps
end Go.Sx
