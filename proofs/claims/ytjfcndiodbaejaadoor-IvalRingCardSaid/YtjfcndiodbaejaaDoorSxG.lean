/-
  A symbolic executor for the model's code, seventh part: a region in any order; code.
-/
import Derived.Test.YtjfcndiodbaejaaDoorSxF
namespace Go.Sx
open Go Go.RowKit

def ancOf (A : List Nat) (o : Oper) : Nat :=
  o.after.toList.foldl (fun s e => bif Region.binds .any e then Nat.lor (Nat.lor s (2 ^ e.on)) (A.getD e.on 0) else s) 0

def ancs : List Oper → List Nat → List Nat
  | [], acc => acc
  | o :: r, acc => ancs r (acc ++ [ancOf acc o])

theorem fold_bit (A : List Nat) (x : Nat) : ∀ (l : List Edge) (s : Nat), (l.foldl (fun s e => bif Region.binds .any e then Nat.lor (Nat.lor s (2 ^ e.on)) (A.getD e.on 0) else s) s).testBit x = true →
    s.testBit x = true ∨ ∃ e ∈ l, Region.binds .any e = true ∧ (e.on = x ∨ (A.getD e.on 0).testBit x = true)
  | [], s, h => .inl h
  | e :: r, s, h => by
    rcases fold_bit A x r _ h with h | ⟨e', he', hb, hx⟩
    · cases hb : Region.binds .any e with
      | false => simp only [hb, cond_false] at h; exact .inl h
      | true =>
        simp only [hb, cond_true] at h
        have h' : ((s ||| 2 ^ e.on) ||| A.getD e.on 0).testBit x = true := h
        rw [Nat.testBit_or, Nat.testBit_or, Bool.or_eq_true, Bool.or_eq_true] at h'
        rcases h' with (h' | h') | h'
        · exact .inl h'
        · refine .inr ⟨e, by simp, hb, .inl ?_⟩
          rw [Nat.testBit_two_pow] at h'
          simpa using h'
        · exact .inr ⟨e, by simp, hb, .inr h'⟩
    · exact .inr ⟨e', by simp [he'], hb, hx⟩

/-- What is looked at of a region that draws: each edge goes back; A is what stands ahead; whoever is not ahead does not meddle. -/
def edgesOk : Nat → List Oper → Bool
  | _, [] => true
  | i, o :: r => (o.after.toList.all fun e => !Region.binds .any e || Nat.blt e.on i) && edgesOk (i + 1) r

def ancsOk (A : List Nat) : Nat → List Oper → Bool
  | _, [] => true
  | i, o :: r => Nat.beq (A.getD i 0) (ancOf A o) && ancsOk A (i + 1) r

def pairOk (A : List Nat) (x e : Ent) : Bool := Nat.blt x.i e.i && (Nat.testBit (A.getD e.i 0) x.i || indep x e)

def pairsOk (A : List Nat) : List Ent → Bool
  | [] => true
  | x :: r => r.all (fun e => pairOk A x e) && pairsOk A r

def drawOk (ops : Array Oper) (L : List Ent) : Bool :=
  edgesOk 0 ops.toList && (ancsOk (ancs ops.toList []) 0 ops.toList && pairsOk (ancs ops.toList []) L)

/-- Operation j comes behind all that stand ahead of it in the text, and ahead of all others, whatever is drawn. -/
def cutOk (A : List Nat) (j : Nat) : Nat → Bool
  | 0 => true
  | k + 1 => (Nat.beq k j || (bif Nat.blt k j then Nat.testBit (A.getD j 0) k else Nat.testBit (A.getD k 0) j)) && cutOk A j k

def drawPOk (ops : Array Oper) (L : List Ent) (j : Nat) : Bool :=
  drawOk ops L && cutOk (ancs ops.toList []) j ops.size

theorem cutOk_spec {A : List Nat} {j : Nat} : ∀ {n : Nat}, cutOk A j n = true → ∀ k, k < n → (k < j → (A.getD j 0).testBit k = true) ∧ (j < k → (A.getD k 0).testBit j = true)
  | 0, _, k, hk => by omega
  | n + 1, h, k, hk => by
    simp only [cutOk, Bool.and_eq_true, Bool.or_eq_true] at h
    by_cases e : k = n
    · subst e
      rcases h.1 with h1 | h1
      · have := Nat.eq_of_beq_eq_true h1
        exact ⟨fun _ => by omega, fun _ => by omega⟩
      · cases hb : Nat.blt k j with
        | true =>
          rw [hb] at h1
          have : k < j := by simpa [Nat.blt_eq] using hb
          exact ⟨fun _ => h1, fun _ => by omega⟩
        | false =>
          rw [hb] at h1
          have : ¬ k < j := fun hlt => by
            have : Nat.blt k j = true := by simpa [Nat.blt_eq] using hlt
            rw [hb] at this; cases this
          exact ⟨fun _ => by omega, fun _ => h1⟩
    · exact cutOk_spec h.2 k (by omega)

theorem edgesOk_spec : ∀ {l : List Oper} {i : Nat}, edgesOk i l = true → ∀ j o, l[j]? = some o → ∀ e ∈ o.after.toList, Region.binds .any e = true → e.on < i + j
  | [], i, _, j, o, hj, _, _, _ => by simp at hj
  | o' :: r, i, h, j, o, hj, e, he, hb => by
    simp only [edgesOk, Bool.and_eq_true] at h
    cases j with
    | zero =>
      simp only [List.getElem?_cons_zero, Option.some.injEq] at hj
      subst hj
      have := List.all_eq_true.1 h.1 e he
      rw [hb] at this
      simpa [Nat.blt_eq] using this
    | succ j =>
      simp only [List.getElem?_cons_succ] at hj
      have := edgesOk_spec h.2 j o hj e he hb
      omega

theorem ancsOk_spec {A : List Nat} : ∀ {l : List Oper} {i : Nat}, ancsOk A i l = true → ∀ j o, l[j]? = some o → A.getD (i + j) 0 = ancOf A o
  | [], i, _, j, o, hj => by simp at hj
  | o' :: r, i, h, j, o, hj => by
    simp only [ancsOk, Bool.and_eq_true] at h
    cases j with
    | zero =>
      simp only [List.getElem?_cons_zero, Option.some.injEq] at hj
      subst hj
      exact Nat.eq_of_beq_eq_true h.1
    | succ j =>
      simp only [List.getElem?_cons_succ] at hj
      have := ancsOk_spec h.2 j o hj
      rw [show i + (j + 1) = i + 1 + j from by omega]
      exact this

theorem pairsOk_spec {A : List Nat} : ∀ {L : List Ent}, pairsOk A L = true → L.Pairwise fun x e => x.i < e.i ∧ ((A.getD e.i 0).testBit x.i = true ∨ indep x e = true)
  | [], _ => .nil
  | x :: r, h => by
    simp only [pairsOk, Bool.and_eq_true] at h
    refine List.Pairwise.cons (fun e he => ?_) (pairsOk_spec h.2)
    have := List.all_eq_true.1 h.1 e he
    simp only [pairOk, Bool.and_eq_true, Bool.or_eq_true] at this
    exact ⟨by simpa [Nat.blt_eq] using this.1, this.2⟩

section
variable {P : Program} {w0 : World} {B N : Nat} {O : Fr} {m : Nat} {cts : Cts P} {F : Fence} {n : Nat} {ops : Array Oper} {Q : Exit → Act → World → Prop} {S' : St} {A : List Nat}

theorem closed (hlt : ∀ j o, ops[j]? = some o → ∀ e ∈ o.after.toList, Region.binds .any e = true → e.on < j) (hA : ∀ j o, ops[j]? = some o → A.getD j 0 = ancOf A o) (hA0 : ∀ j, ops[j]? = none → A.getD j 0 = 0) {Lst : Nat → Prop}
    (dc : ∀ k o e, ops[k]? = some o → Lst k → e ∈ o.after.toList → Region.binds .any e = true → Lst e.on) (x : Nat) :
    ∀ j o, ops[j]? = some o → (∀ e ∈ o.after.toList, Region.binds .any e = true → Lst e.on) → (A.getD j 0).testBit x = true → Lst x := by
  intro j
  induction j using Nat.strongRecOn with
  | _ j ih =>
    intro o ho hp hx
    rw [hA j o ho] at hx
    rcases fold_bit A x _ _ hx with h | ⟨e, he, hb, h⟩
    · simp at h
    · rcases h with rfl | h
      · exact hp e he hb
      · cases hoe : ops[e.on]? with
        | none => rw [hA0 _ hoe] at h; simp at h
        | some oe => exact ih e.on (hlt j o ho e he hb) oe hoe (fun e' he' hb' => dc e.on oe e' hoe (hp e he hb) he' hb') h

theorem mem_ready {md : Region.Mode} {listed : Array Bool} {i : Nat} : i ∈ Region.ready md ops listed ↔ i < ops.size ∧ listed.getD i true = false ∧ ∃ o, ops[i]? = some o ∧ ∀ e ∈ o.after.toList, Region.binds md e = true → listed.getD e.on false = true := by
  unfold Region.ready
  simp only [List.mem_filter, List.mem_range, Bool.and_eq_true, Bool.not_eq_true']
  constructor
  · rintro ⟨h1, h2, h3⟩
    refine ⟨h1, h2, ?_⟩
    cases ho : ops[i]? with
    | none => simp [ho] at h3
    | some o =>
      refine ⟨o, rfl, fun e he hb => ?_⟩
      simp only [ho, Option.map_some, Option.getD_some, Array.all_eq_true_iff_forall_mem] at h3
      have := h3 e (by simpa using he)
      simpa [hb] using this
  · rintro ⟨h1, h2, o, ho, h3⟩
    refine ⟨h1, h2, ?_⟩
    simp only [ho, Option.map_some, Option.getD_some, Array.all_eq_true_iff_forall_mem]
    intro e he
    cases hb : Region.binds md e with
    | false => simp
    | true => simpa [hb] using h3 e (by simpa using he) hb

theorem any_wp (hF : Loose F)
    (hlt : ∀ j o, ops[j]? = some o → ∀ e ∈ o.after.toList, Region.binds .any e = true → e.on < j) (hA : ∀ j o, ops[j]? = some o → A.getD j 0 = ancOf A o) (hA0 : ∀ j, ops[j]? = none → A.getD j 0 = 0) :
    ∀ (k : Nat) {L : List Ent} {β : Ren} {S : St} {a : Act} {W : World} {listed : Array Bool}, (∀ β' a W, Ext β β' → R β' w0 B N O m S' a W → Q .normal a W) → L.length = k → R β w0 B N O m S a W → Valid P cts N ops S' S L → (∀ e ∈ L, ∀ p ∈ e.ps, p) →
      listed.size = ops.size → (∀ i, i < ops.size → (listed.getD i true = false ↔ ∃ e ∈ L, e.i = i)) → (∀ e ∈ L, e.i < ops.size) →
      (∀ k o e, ops[k]? = some o → listed.getD k false = true → e ∈ o.after.toList → Region.binds .any e = true → listed.getD e.on false = true) →
      (L.Pairwise fun x e => x.i < e.i ∧ ((A.getD e.i 0).testBit x.i = true ∨ indep x e = true)) → wpAnyIn F n P .any ops Q k listed a W := by
  intro k
  induction k with
  | zero =>
    intro L β S a W listed hQ hm h hv hp hsz hun _ _ _
    obtain rfl : L = [] := List.length_eq_zero_iff.1 hm
    refine ⟨?_, hQ β a W (.refl _) (h.congr hv)⟩
    apply List.eq_nil_iff_forall_not_mem.2
    intro i hi
    obtain ⟨h1, h2, _⟩ := mem_ready.1 hi
    obtain ⟨e, he, _⟩ := (hun i h1).1 h2
    simp at he
  | succ k ih =>
    intro L β S a W listed hQ hm h hv hp hsz hun hin dc hpw
    have lst : ∀ i, i < ops.size → listed.getD i true ≠ false → listed.getD i false = true := by
      intro i hi hne
      have hi' : i < listed.size := by omega
      simp only [Array.getD, hi', dif_pos] at hne ⊢
      simpa using hne
    refine ⟨fun hnil => ?_, ?_⟩
    · exfalso
      cases L with
      | nil => simp at hm
      | cons e0 r =>
        have hi0 := hin e0 (by simp)
        have : e0.i ∈ Region.ready .any ops listed := by
          refine mem_ready.2 ⟨hi0, (hun _ hi0).2 ⟨e0, by simp, rfl⟩, ops[e0.i], by simp [hi0], fun e he hb => ?_⟩
          have hlt' := hlt e0.i _ (by simp [hi0]) e he hb
          refine lst _ (by omega) (fun hf => ?_)
          obtain ⟨e1, he1, hi1⟩ := (hun e.on (by omega)).1 hf
          rcases List.mem_cons.1 he1 with rfl | he1
          · omega
          · have := (List.rel_of_pairwise_cons hpw he1).1
            omega
        rw [hnil] at this
        simp at this
    · intro i hi
      obtain ⟨hi1, hi2, o, ho, hpre⟩ := mem_ready.1 hi
      obtain ⟨e, he, rfl⟩ := (hun _ hi1).1 hi2
      obtain ⟨p, q, rfl⟩ := List.append_of_mem he
      have hpw' := List.pairwise_append.1 hpw
      have hind : ∀ x ∈ p, indep x e = true := by
        intro x hx
        have h3 := hpw'.2.2 x hx e (by simp)
        rcases h3.2 with h3 | h3
        · exfalso
          have hl := closed (Lst := fun k => listed.getD k false = true) hlt hA hA0 dc x.i e.i o ho hpre h3
          have hx1 := hin x (by simp [hx])
          have hx2 := (hun x.i hx1).2 ⟨x, by simp [hx], rfl⟩
          have hx' : x.i < listed.size := by omega
          simp only [Array.getD, hx', dif_pos] at hx2 hl
          rw [hx2] at hl
          cases hl
        · exact h3
      obtain ⟨T, hl, hv'⟩ := (Valid.front hind hv).first (hp e (by simp))
      refine hl.go hF h fun β' a' W' hE hR => ?_
      have hsub : ∀ {x}, x ∈ p ++ q → x ∈ p ++ e :: q := fun hx => by
        rcases List.mem_append.1 hx with hx | hx <;> simp [hx]
      have hne : ∀ x ∈ p ++ q, x.i ≠ e.i := by
        intro x hx
        rcases List.mem_append.1 hx with hx | hx
        · have := (hpw'.2.2 x hx e (by simp)).1; omega
        · have := (List.rel_of_pairwise_cons hpw'.2.1 hx).1; omega
      have setD : ∀ k d, (listed.setIfInBounds e.i true).getD k d = if k = e.i then true else listed.getD k d := by
        intro k d
        have hi' : e.i < listed.size := by omega
        by_cases hk : k = e.i
        · subst hk; simp [Array.getD, hi']
        · rw [if_neg hk]
          by_cases hk2 : k < listed.size
          · simp [Array.getD, hk2, Array.getElem_setIfInBounds_ne, Ne.symm hk]
          · simp [Array.getD, hk2]
      refine ih (fun β2 a2 W2 hE2 hR2 => hQ β2 a2 W2 (hE.trans hE2) hR2) (by simp at hm ⊢; omega) hR hv' (fun x hx => hp x (hsub hx)) (by simpa using hsz) ?_ (fun x hx => hin x (hsub hx)) ?_ ?_
      · intro k hk
        rw [setD]
        by_cases hk2 : k = e.i
        · simp only [hk2, if_true]
          constructor
          · intro hf; cases hf
          · rintro ⟨x, hx, hxk⟩; exact absurd hxk (hne x hx)
        · rw [if_neg hk2, hun k hk]
          constructor
          · rintro ⟨x, hx, rfl⟩
            rcases List.mem_append.1 hx with hx | hx
            · exact ⟨x, by simp [hx], rfl⟩
            · rcases List.mem_cons.1 hx with rfl | hx
              · exact absurd rfl hk2
              · exact ⟨x, by simp [hx], rfl⟩
          · rintro ⟨x, hx, rfl⟩; exact ⟨x, hsub hx, rfl⟩
      · intro k o2 e2 hk hl he2 hb2
        rw [setD] at hl ⊢
        by_cases hk2 : e2.on = e.i
        · rw [if_pos hk2]
        · rw [if_neg hk2]
          by_cases hk3 : k = e.i
          · subst hk3
            rw [ho] at hk
            cases hk
            exact hpre e2 he2 hb2
          · rw [if_neg hk3] at hl
            exact dc k o2 e2 hk hl he2 hb2
      · refine List.pairwise_append.2 ⟨hpw'.1, (List.pairwise_cons.1 hpw'.2.1).2, fun x hx y hy => hpw'.2.2 x hx y (by simp [hy])⟩

theorem any_wpP (hF : Loose F) {j : Nat} {T0 : St} {v : Value} (hj : j < ops.size) (hpan : Pans P N ops j S' T0 v) (hcut : ∀ k, k < ops.size → (k < j → (A.getD j 0).testBit k = true) ∧ (j < k → (A.getD k 0).testBit j = true))
    (hlt : ∀ j o, ops[j]? = some o → ∀ e ∈ o.after.toList, Region.binds .any e = true → e.on < j) (hA : ∀ j o, ops[j]? = some o → A.getD j 0 = ancOf A o) (hA0 : ∀ j, ops[j]? = none → A.getD j 0 = 0) :
    ∀ (k : Nat) {L : List Ent} {β : Ren} {S : St} {a : Act} {W : World} {listed : Array Bool}, (∀ β' a W, Ext β β' → R β' w0 B N O m T0 a W → Q (.panic [{ v, recovered := false }]) a W) → L.length = k → R β w0 B N O m S a W → Valid P cts N ops S' S L → (∀ e ∈ L, ∀ p ∈ e.ps, p) →
      listed.size = ops.size → (∀ i, i < ops.size → (listed.getD i true = false ↔ (∃ e ∈ L, e.i = i) ∨ j ≤ i)) → (∀ e ∈ L, e.i < j) →
      (∀ k o e, ops[k]? = some o → listed.getD k false = true → e ∈ o.after.toList → Region.binds .any e = true → listed.getD e.on false = true) →
      (L.Pairwise fun x e => x.i < e.i ∧ ((A.getD e.i 0).testBit x.i = true ∨ indep x e = true)) → wpAnyIn F n P .any ops Q (k + (ops.size - j)) listed a W := by
  intro k
  induction k with
  | zero =>
    intro L β S a W listed hQ hm h hv hp hsz hun _ dc _
    obtain rfl : L = [] := List.length_eq_zero_iff.1 hm
    have lst : ∀ i, i < ops.size → listed.getD i true ≠ false → listed.getD i false = true := by
      intro i hi hne
      have hi' : i < listed.size := by omega
      simp only [Array.getD, hi', dif_pos] at hne ⊢
      simpa using hne
    obtain ⟨k', hk'⟩ : ∃ k', 0 + (ops.size - j) = k' + 1 := ⟨ops.size - j - 1, by omega⟩
    rw [hk']
    have hR' := h.congr hv
    refine ⟨fun hnil => ?_, ?_⟩
    · exfalso
      have : j ∈ Region.ready .any ops listed := by
        refine mem_ready.2 ⟨hj, (hun _ hj).2 (.inr (Nat.le_refl _)), ops[j], by simp [hj], fun e he hb => ?_⟩
        have hlt' := hlt j _ (by simp [hj]) e he hb
        refine lst _ (by omega) (fun hf => ?_)
        rcases (hun e.on (by omega)).1 hf with ⟨e1, he1, _⟩ | h1
        · simp at he1
        · omega
      rw [hnil] at this
      simp at this
    · intro i hi
      obtain ⟨hi1, hi2, o, ho, hpre⟩ := mem_ready.1 hi
      have hij : i = j := by
        rcases (hun _ hi1).1 hi2 with ⟨e1, he1, _⟩ | h1
        · simp at he1
        · rcases Nat.lt_or_ge j i with hlt' | hge
          · exfalso
            have hl := closed (Lst := fun k => listed.getD k false = true) hlt hA hA0 dc j i o ho hpre ((hcut i hi1).2 hlt')
            have hx2 := (hun j hj).2 (.inr (Nat.le_refl _))
            have hx' : j < listed.size := by omega
            simp only [Array.getD, hx', dif_pos] at hx2 hl
            rw [hx2] at hl
            cases hl
          · omega
      subst hij
      exact hpan.go hF hR' fun β' W' hE hR => hQ β' a W' hE hR
  | succ k ih =>
    intro L β S a W listed hQ hm h hv hp hsz hun hin dc hpw
    rw [show k + 1 + (ops.size - j) = (k + (ops.size - j)) + 1 by omega]
    have lst : ∀ i, i < ops.size → listed.getD i true ≠ false → listed.getD i false = true := by
      intro i hi hne
      have hi' : i < listed.size := by omega
      simp only [Array.getD, hi', dif_pos] at hne ⊢
      simpa using hne
    refine ⟨fun hnil => ?_, ?_⟩
    · exfalso
      cases L with
      | nil => simp at hm
      | cons e0 r =>
        have hi00 := hin e0 (by simp)
        have hi0 : e0.i < ops.size := by omega
        have : e0.i ∈ Region.ready .any ops listed := by
          refine mem_ready.2 ⟨hi0, (hun _ hi0).2 (.inl ⟨e0, by simp, rfl⟩), ops[e0.i], by simp [hi0], fun e he hb => ?_⟩
          have hlt' := hlt e0.i _ (by simp [hi0]) e he hb
          refine lst _ (by omega) (fun hf => ?_)
          rcases (hun e.on (by omega)).1 hf with ⟨e1, he1, hi1⟩ | h1
          · rcases List.mem_cons.1 he1 with rfl | he1
            · omega
            · have := (List.rel_of_pairwise_cons hpw he1).1
              omega
          · omega
        rw [hnil] at this
        simp at this
    · intro i hi
      obtain ⟨hi1, hi2, o, ho, hpre⟩ := mem_ready.1 hi
      have hne0 : ∃ x0 r0, L = x0 :: r0 := by
        cases L with
        | nil => simp at hm
        | cons x0 r0 => exact ⟨x0, r0, rfl⟩
      have lstd : ∀ x, x < ops.size → (∀ y, y = x → listed.getD y false = true) → ¬ listed.getD x true = false := fun x hx hl hf => by
        have hx' : x < listed.size := by omega
        have hl := hl x rfl
        simp only [Array.getD, hx', dif_pos] at hf hl
        rw [hf] at hl
        cases hl
      have hex : ∃ e ∈ L, e.i = i := by
        rcases (hun _ hi1).1 hi2 with hex | h1
        · exact hex
        · exfalso
          obtain ⟨x0, r0, rfl⟩ := hne0
          have hx0 := hin x0 (by simp)
          rcases Nat.lt_or_ge j i with hlt' | hge
          · have hl := closed (Lst := fun k => listed.getD k false = true) hlt hA hA0 dc j i o ho hpre ((hcut i hi1).2 hlt')
            exact lstd j hj (fun y hy => hy ▸ hl) ((hun j hj).2 (.inr (Nat.le_refl _)))
          · have hij : i = j := by omega
            subst hij
            have hl := closed (Lst := fun k => listed.getD k false = true) hlt hA hA0 dc x0.i i o ho hpre ((hcut x0.i (by omega)).1 hx0)
            exact lstd x0.i (by omega) (fun y hy => hy ▸ hl) ((hun x0.i (by omega)).2 (.inl ⟨x0, by simp, rfl⟩))
      obtain ⟨e, he, rfl⟩ := hex
      obtain ⟨p, q, rfl⟩ := List.append_of_mem he
      have hpw' := List.pairwise_append.1 hpw
      have hind : ∀ x ∈ p, indep x e = true := by
        intro x hx
        have h3 := hpw'.2.2 x hx e (by simp)
        rcases h3.2 with h3 | h3
        · exfalso
          have hl := closed (Lst := fun k => listed.getD k false = true) hlt hA hA0 dc x.i e.i o ho hpre h3
          have hx0 := hin x (by simp [hx])
          have hx1 : x.i < ops.size := by omega
          have hx2 := (hun x.i hx1).2 (.inl ⟨x, by simp [hx], rfl⟩)
          have hx' : x.i < listed.size := by omega
          simp only [Array.getD, hx', dif_pos] at hx2 hl
          rw [hx2] at hl
          cases hl
        · exact h3
      obtain ⟨T, hl, hv'⟩ := (Valid.front hind hv).first (hp e (by simp))
      refine hl.go hF h fun β' a' W' hE hR => ?_
      have hsub : ∀ {x}, x ∈ p ++ q → x ∈ p ++ e :: q := fun hx => by
        rcases List.mem_append.1 hx with hx | hx <;> simp [hx]
      have hne : ∀ x ∈ p ++ q, x.i ≠ e.i := by
        intro x hx
        rcases List.mem_append.1 hx with hx | hx
        · have := (hpw'.2.2 x hx e (by simp)).1; omega
        · have := (List.rel_of_pairwise_cons hpw'.2.1 hx).1; omega
      have setD : ∀ k d, (listed.setIfInBounds e.i true).getD k d = if k = e.i then true else listed.getD k d := by
        intro k d
        have hi' : e.i < listed.size := by omega
        by_cases hk : k = e.i
        · subst hk; simp [Array.getD, hi']
        · rw [if_neg hk]
          by_cases hk2 : k < listed.size
          · simp [Array.getD, hk2, Array.getElem_setIfInBounds_ne, Ne.symm hk]
          · simp [Array.getD, hk2]
      refine ih (fun β2 a2 W2 hE2 hR2 => hQ β2 a2 W2 (hE.trans hE2) hR2) (by simp at hm ⊢; omega) hR hv' (fun x hx => hp x (hsub hx)) (by simpa using hsz) ?_ (fun x hx => hin x (hsub hx)) ?_ ?_
      · intro k hk
        rw [setD]
        by_cases hk2 : k = e.i
        · simp only [hk2, if_true]
          constructor
          · intro hf; cases hf
          · rintro (⟨x, hx, hxk⟩ | hxk)
            · exact absurd hxk (hne x hx)
            · have := hin e (by simp); omega
        · rw [if_neg hk2, hun k hk]
          constructor
          · rintro (⟨x, hx, rfl⟩ | hxk)
            · rcases List.mem_append.1 hx with hx | hx
              · exact .inl ⟨x, by simp [hx], rfl⟩
              · rcases List.mem_cons.1 hx with rfl | hx
                · exact absurd rfl hk2
                · exact .inl ⟨x, by simp [hx], rfl⟩
            · exact .inr hxk
          · rintro (⟨x, hx, rfl⟩ | hxk)
            · exact .inl ⟨x, hsub hx, rfl⟩
            · exact .inr hxk
      · intro k o2 e2 hk hl he2 hb2
        rw [setD] at hl ⊢
        by_cases hk2 : e2.on = e.i
        · rw [if_pos hk2]
        · rw [if_neg hk2]
          by_cases hk3 : k = e.i
          · subst hk3
            rw [ho] at hk
            cases hk
            exact hpre e2 he2 hb2
          · rw [if_neg hk3] at hl
            exact dc k o2 e2 hk hl he2 hb2
      · refine List.pairwise_append.2 ⟨hpw'.1, (List.pairwise_cons.1 hpw'.2.1).2, fun x hx y hy => hpw'.2.2 x hx y (by simp [hy])⟩

theorem ancs_length : ∀ (l : List Oper) (acc : List Nat), (ancs l acc).length = acc.length + l.length
  | [], acc => rfl
  | o :: r, acc => by simp [ancs, ancs_length r]; omega

theorem draw_wp {id : Nat} {L : List Ent} {β : Ren} {S : St} {a : Act} {W : World} (hm : P.follows .mixedOrders = true) (hF : Loose F) (hQ : ∀ β' a W, Ext β β' → R β' w0 B N O m S' a W → Q .normal a W)
    (h : R β w0 B N O m S a W) (hv : Valid P cts N ops S' S L) (hL : L.map (·.i) = List.range' 0 ops.size) (hp : ∀ e ∈ L, ∀ p ∈ e.ps, p) (hd : drawOk ops L = true) : (Code.region id ops true).wpIn F n P Q a W := by
  simp only [drawOk, Bool.and_eq_true] at hd
  obtain ⟨h1, h2, h3⟩ := hd
  refine wpIn_region_any hm ?_
  have hlen : L.length = ops.size := by have := congrArg List.length hL; simpa using this
  have hget : ∀ {j : Nat} {o : Oper}, ops[j]? = some o → ops.toList[j]? = some o := fun h => by simpa using h
  have := any_wp (A := ancs ops.toList []) (cts := cts) (n := n) (listed := Array.replicate ops.size false) hF
    (fun j o ho e he hb => by have := edgesOk_spec h1 j o (hget ho) e he hb; omega)
    (fun j o ho => by have := ancsOk_spec h2 j o (hget ho); rwa [Nat.zero_add] at this)
    (fun j hj => by
      have hj' : ops.size ≤ j := by simpa using hj
      have : (ancs ops.toList []).length ≤ j := by rw [ancs_length]; simpa using hj'
      simp [List.getD, List.getElem?_eq_none this])
    L.length hQ rfl h.drew hv hp (by simp) (fun i hi => by
      simp only [Array.getD, Array.size_replicate, hi, dif_pos, Array.getInternal_eq_getElem, Array.getElem_replicate, true_iff]
      have : i ∈ L.map (·.i) := by rw [hL]; simp [List.mem_range', hi]
      obtain ⟨e, he, rfl⟩ := List.mem_map.1 this
      exact ⟨e, he, rfl⟩)
    (fun e he => by
      have : e.i ∈ L.map (·.i) := List.mem_map.2 ⟨e, he, rfl⟩
      rw [hL] at this
      simpa [List.mem_range'] using this)
    (fun k o e hk hl => by
      exfalso
      simp [Array.getD] at hl)
    (pairsOk_spec h3)
  rw [hlen] at this
  exact this

theorem draw_wpP {id : Nat} {L : List Ent} {β : Ren} {S T0 : St} {a : Act} {W : World} {j : Nat} {v : Value} (hm : P.follows .mixedOrders = true) (hF : Loose F) (hj : j < ops.size) (hpan : Pans P N ops j S' T0 v)
    (hQ : ∀ β' a W, Ext β β' → R β' w0 B N O m T0 a W → Q (.panic [{ v, recovered := false }]) a W)
    (h : R β w0 B N O m S a W) (hv : Valid P cts N ops S' S L) (hL : L.map (·.i) = List.range' 0 j) (hp : ∀ e ∈ L, ∀ p ∈ e.ps, p) (hd : drawPOk ops L j = true) : (Code.region id ops true).wpIn F n P Q a W := by
  simp only [drawPOk, drawOk, Bool.and_eq_true] at hd
  obtain ⟨⟨h1, h2, h3⟩, h4⟩ := hd
  refine wpIn_region_any hm ?_
  have hlen : L.length = j := by have := congrArg List.length hL; simpa using this
  have hget : ∀ {j : Nat} {o : Oper}, ops[j]? = some o → ops.toList[j]? = some o := fun h => by simpa using h
  have := any_wpP (A := ancs ops.toList []) (cts := cts) (n := n) (listed := Array.replicate ops.size false) hF hj hpan (cutOk_spec h4)
    (fun j o ho e he hb => by have := edgesOk_spec h1 j o (hget ho) e he hb; omega)
    (fun j o ho => by have := ancsOk_spec h2 j o (hget ho); rwa [Nat.zero_add] at this)
    (fun j hj => by
      have hj' : ops.size ≤ j := by simpa using hj
      have : (ancs ops.toList []).length ≤ j := by rw [ancs_length]; simpa using hj'
      simp [List.getD, List.getElem?_eq_none this])
    L.length hQ rfl h.drew hv hp (by simp) (fun i hi => by
      simp only [Array.getD, Array.size_replicate, hi, dif_pos, Array.getInternal_eq_getElem, Array.getElem_replicate, true_iff]
      rcases Nat.lt_or_ge i j with hij | hij
      · have : i ∈ L.map (·.i) := by rw [hL]; simp [List.mem_range', hij]
        obtain ⟨e, he, rfl⟩ := List.mem_map.1 this
        exact .inl ⟨e, he, rfl⟩
      · exact .inr hij)
    (fun e he => by
      have : e.i ∈ L.map (·.i) := List.mem_map.2 ⟨e, he, rfl⟩
      rw [hL] at this
      simpa [List.mem_range'] using this)
    (fun k o e hk hl => by
      exfalso
      simp [Array.getD] at hl)
    (pairsOk_spec h3)
  rw [hlen, show j + (ops.size - j) = ops.size by omega] at this
  exact this
end
end Go.Sx
