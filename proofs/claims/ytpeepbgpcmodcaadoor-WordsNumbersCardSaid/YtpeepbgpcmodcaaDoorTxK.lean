/-
  Words: the kinds of runes. The map's type is named by its number: 63, 21, 3 (int32, int).
-/
import Derived.Test.YtpeepbgpcmodcaaDoorTxF
import Derived.WalkKit
import Derived.WalkSpells
import Derived.StillTactics
set_option maxRecDepth 100000
namespace Go.Tx
open Go Go.RowKit Go.Sx Go.Proofs
def kd (c : Int) : Int := if bl c then 1 else if (c == 127) || ((c == 65533) || decide (c < 32)) then 2 else 0
theorem sd_kd (c : Int) (b : Bool) : sd c b = (!b && (kd c != 2)) := by
  unfold sd kd
  cases hb : bl c with
  | true =>
    have h : c = 32 ∨ c = 9 ∨ c = 10 ∨ c = 160 ∨ c = 12288 := by
      unfold bl at hb
      simpa using hb
    rcases h with rfl | rfl | rfl | rfl | rfl <;> cases b <;> rfl
  | false =>
    simp only [Bool.or_false, Bool.false_eq_true, if_false]
    cases h1 : (c == 127) with
    | true =>
      have := eq_of_beq h1
      subst this
      cases b <;> rfl
    | false =>
      cases h2 : (c == 65533) with
      | true =>
        have := eq_of_beq h2
        subst this
        cases b <;> rfl
      | false =>
        have e1 : (c != 127) = true := by rw [bne, h1]; rfl
        have e2 : (c != 65533) = true := by rw [bne, h2]; rfl
        rw [e1, e2]
        by_cases h3 : c < 32
        · rw [decide_eq_true h3, decide_eq_false (by omega)]
          cases b <;> rfl
        · rw [decide_eq_false h3, decide_eq_true (by omega)]
          cases b <;> rfl
theorem u63 : P.underlying 63 = some (.map 21 3) := by kernel_rfl
theorem u21 : P.underlying 21 = some (.int .i32) := by kernel_rfl
theorem mu (w : World) (es es' : List MapEntry) (cl cl' : Nat) (k v : Int) (h : Instr.findNow (.int .i32) (.int .i32 k) es 0 = some none) (he : es' = es ++ [⟨.int .i32 k, .int .i64 v, cl⟩]) (hc : cl' = cl + 1) :
    (Instr.mapUpdate 63 (.map (some w.heap.size)) (.int .i32 k) (.int .i64 v)).run Tryd.prog (w.alloc (.map es.toArray cl)) = .ok () (w.alloc (.map es'.toArray cl')) := by
  subst he hc
  have h1 : (w.alloc (.map es.toArray cl)).heap[w.heap.size]? = some (.map es.toArray cl) := heap_alloc_new _ _
  have h2 : (Instr.checkKey false 10000 21 (.int .i32 k)).run P (w.alloc (.map es.toArray cl)) = .ok () (w.alloc (.map es.toArray cl)) := by
    rw [show (10000 : Nat) = 9999 + 1 from rfl, Instr.checkKey]
    simp only [Sem.run_bind, run_underlying u21, Result.andThen_ok]
    rfl
  have h3 : (Instr.findKey 21 (.int .i32 k) es).run P (w.alloc (.map es.toArray cl)) = .ok none (w.alloc (.map es.toArray cl)) := by
    simp only [Instr.findKey, Sem.run_bind, run_underlying u21, Result.andThen_ok, h, Sem.run_pure]
  simp only [Instr.mapUpdate, Sem.run_bind, run_underlying u63, getObj, Sem.run, h1, Result.andThen, h2, h3, setObj]
  simp only [World.alloc, List.push_toArray]
  congr 2
  apply Array.ext'
  simp [Array.setIfInBounds, Array.toList_push]
def en (k v : Int) (b : Nat) : MapEntry := ⟨.int .i32 k, .int .i64 v, b⟩
def mp : Nat → List MapEntry
  | 0 => []
  | 1 => [en 32 1 0]
  | 2 => [en 32 1 0, en 9 1 1]
  | 3 => [en 32 1 0, en 9 1 1, en 10 1 2]
  | 4 => [en 32 1 0, en 9 1 1, en 10 1 2, en 160 1 3]
  | 5 => [en 32 1 0, en 9 1 1, en 10 1 2, en 160 1 3, en 12288 1 4]
  | 6 => [en 32 1 0, en 9 1 1, en 10 1 2, en 160 1 3, en 12288 1 4, en 127 2 5]
  | _ => [en 32 1 0, en 9 1 1, en 10 1 2, en 160 1 3, en 12288 1 4, en 127 2 5, en 65533 2 6]
def lk (c : Int) : Int := if bl c then 1 else if (c == 127) || (c == 65533) then 2 else 0
def li (c : Int) : Bool := bl c || ((c == 127) || (c == 65533))
theorem mm (w : World) : (Instr.makeMap 63 none).run Tryd.prog w = .ok (.map (some w.heap.size)) (w.alloc (.map (mp 0).toArray 0)) := rfl
theorem lu (w : World) (c : Int) : (Instr.lookup 63 (.map (some w.heap.size)) (.int .i32 c) true).run Tryd.prog (w.alloc (.map (mp 7).toArray 7)) = .ok (.tuple #[.int .i64 (lk c), .bool (li c)]) (w.alloc (.map (mp 7).toArray 7)) := by
  have h1 : (w.alloc (.map (mp 7).toArray 7)).heap[w.heap.size]? = some (.map (mp 7).toArray 7) := heap_alloc_new _ _
  have h2 : (Instr.checkKey (mp 7).toArray.isEmpty 10000 21 (.int .i32 c)).run P (w.alloc (.map (mp 7).toArray 7)) = .ok () (w.alloc (.map (mp 7).toArray 7)) := by
    rw [show (10000 : Nat) = 9999 + 1 from rfl, Instr.checkKey]
    simp only [Sem.run_bind, run_underlying u21, Result.andThen_ok]
    rfl
  have h3 : ∃ q : Option (Nat × Value), Instr.findNow (.int .i32) (.int .i32 c) (mp 7) 0 = some q ∧ (match q with
      | some (_, v) => v = .int .i64 (lk c) ∧ li c = true
      | none => lk c = 0 ∧ li c = false) := by
    unfold lk li bl
    simp only [mp, en, Instr.findNow, Instr.sameNow, if_true]
    cases e1 : (c == 32) <;> cases e2 : (c == 9) <;> cases e3 : (c == 10) <;> cases e4 : (c == 160) <;> cases e5 : (c == 12288) <;> cases e6 : (c == 127) <;> cases e7 : (c == 65533) <;> exact ⟨_, rfl, rfl, rfl⟩
  obtain ⟨q, hq, hv⟩ := h3
  have h4 : (Instr.findKey 21 (.int .i32 c) (mp 7)).run P (w.alloc (.map (mp 7).toArray 7)) = .ok q (w.alloc (.map (mp 7).toArray 7)) := by
    simp only [Instr.findKey, Sem.run_bind, run_underlying u21, Result.andThen_ok, hq, Sem.run_pure]
  have hz : ∀ W, (zeroValue 3).run P W = .ok (.int .i64 0) W := fun W => rfl
  have hg : (getObj w.heap.size).run P (w.alloc (.map (mp 7).toArray 7)) = .ok (.map (mp 7).toArray 7) (w.alloc (.map (mp 7).toArray 7)) := by simp only [getObj, Sem.run, h1]
  simp only [Instr.lookup, Sem.run_bind, run_underlying u63, Result.andThen_ok, hg, Sem.run_pure, h2, h4]
  cases q with
  | none =>
    obtain ⟨e1, e2⟩ := hv
    simp only [Sem.run_bind, hz, Result.andThen_ok, Sem.run_pure, e1, e2, if_true]
  | some q =>
    obtain ⟨i, v⟩ := q
    obtain ⟨e1, e2⟩ := hv
    simp only [Sem.run_bind, Result.andThen_ok, Sem.run_pure, e1, e2, if_true]
theorem lk_kd {c : Int} (h : li c = true) : lk c = kd c := by
  unfold li at h
  unfold lk kd
  cases hb : bl c with
  | true => rfl
  | false =>
    rw [hb, Bool.false_or] at h
    rw [h, ← Bool.or_assoc, h]
    rfl
theorem li_f {c : Int} (h : li c = false) : bl c = false ∧ ((c == 127) || (c == 65533)) = false := by
  unfold li at h
  simpa only [Bool.or_eq_false_iff] using h
theorem kd_lt {c : Int} (h : li c = false) (h' : c < 32) : kd c = 2 := by
  unfold kd
  rw [(li_f h).1, ← Bool.or_assoc, (li_f h).2, decide_eq_true h']
  rfl
theorem kd_ge {c : Int} (h : li c = false) (h' : 32 ≤ c) : kd c = 0 := by
  unfold kd
  rw [(li_f h).1, ← Bool.or_assoc, (li_f h).2, decide_eq_false (by omega)]
  rfl
theorem kind_any (c : Int) (w : World) : Calls Tryd.prog 28 #[.int .i32 c] w fun e w' => e = .returned (.int .i64 (kd c)) ∧ Below w.heap.size w w' := by
  have h0 := mm w
  have h1 := mu w (mp 0) (mp 1) 0 1 32 1 rfl rfl rfl
  have h2 := mu w (mp 1) (mp 2) 1 2 9 1 rfl rfl rfl
  have h3 := mu w (mp 2) (mp 3) 2 3 10 1 rfl rfl rfl
  have h4 := mu w (mp 3) (mp 4) 3 4 160 1 rfl rfl rfl
  have h5 := mu w (mp 4) (mp 5) 4 5 12288 1 rfl rfl rfl
  have h6 := mu w (mp 5) (mp 6) 5 6 127 2 rfl rfl rfl
  have h7 := mu w (mp 6) (mp 7) 6 7 65533 2 rfl rfl rfl
  have h8 := lu w c
  go_enter Tryd.func28, Tryd.ntmps28
  go_wp2
  all_goals simp [bodyPost, results, Tryd.results28, go_sem]
  · rename_i h
    exact ⟨lk_kd h, (Below.refl _ w).alloc (Nat.le_refl _) _⟩
  · rename_i hl _ _ h
    exact ⟨(kd_lt hl h).symm, (Below.refl _ w).alloc (Nat.le_refl _) _⟩
  · rename_i hl h
    exact ⟨(kd_ge hl h).symm, (Below.refl _ w).alloc (Nat.le_refl _) _⟩
theorem kind_ok (c : Int) : Sx.Gives P 28 #[.int .i32 c] (.int .i64 (kd c)) := Sx.gives_of_calls (by kernel_rfl) fun w _ => kind_any c w
noncomputable def kd_c : Sx.Ctr P := ⟨28, rP, rV fun c => .int .i64 (kd c), r_gives kind_ok⟩
end Go.Tx
