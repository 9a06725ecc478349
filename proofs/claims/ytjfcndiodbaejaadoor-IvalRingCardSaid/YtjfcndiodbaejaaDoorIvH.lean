/-
  The laws IvalParts, IvalHolds: each comes to true. Printed by ivH.py.
-/
import Derived.Test.YtjfcndiodbaejaaDoorIvG
set_option maxRecDepth 100000
namespace Go.Iv
open Go Go.RowKit Go.Sx Go.Nm Go.Wd Go.Qt Go.Proofs

theorem hull3 {a b c : Iv} (hf : fineL [a, b, c] = true) : hullI [a, b, c] = ⟨mn (mn a.lo b.lo) c.lo, mx (mx a.hi b.hi) c.hi, a.bad⟩ := by
  show (bif fineL [a, b, c] then _ else _) = _
  rw [hf]; rfl
structure Hul (a b c h : Iv) : Prop where
  ok : fine h = true
  eq : h = ⟨mn (mn a.lo b.lo) c.lo, mx (mx a.hi b.hi) c.hi, a.bad⟩
  lo : h.lo ≤ a.lo ∧ h.lo ≤ b.lo ∧ h.lo ≤ c.lo
  hi : a.hi ≤ h.hi ∧ b.hi ≤ h.hi ∧ c.hi ≤ h.hi
theorem hul {a b c : Iv} (fa : fine a = true) (fb : fine b = true) (fc : fine c = true) : Hul a b c (hullI [a, b, c]) := by
  have hf : fineL [a, b, c] = true := by
    show (fine a && (fine b && (fine c && true))) = true
    rw [fa, fb, fc]; rfl
  have e := hull3 hf
  have ra := fine_iff.1 fa
  have rb := fine_iff.1 fb
  have rc := fine_iff.1 fc
  refine ⟨?_, e, ?_, ?_⟩ <;> rw [e]
  · refine fine_iff.2 ⟨ra.1, ?_, ?_, ?_⟩ <;> simp only [mn, mx] <;> repeat' split
    all_goals omega
  · simp only [mn]; refine ⟨?_, ?_, ?_⟩ <;> repeat' split
    all_goals omega
  · simp only [mx]; refine ⟨?_, ?_, ?_⟩ <;> repeat' split
    all_goals omega
theorem meet_bad {a b : Iv} (fa : fine a = true) (fb : fine b = true) : (meetI a b).bad = decide (mx a.lo b.lo > mn a.hi b.hi) := by
  have ra := fine_iff.1 fa
  have rb := fine_iff.1 fb
  unfold meetI
  rw [fine2.2 ⟨fa, fb⟩]
  show (told ⟨mx a.lo b.lo, mn a.hi b.hi, false⟩).bad = _
  by_cases h : mx a.lo b.lo > mn a.hi b.hi
  · have : fine ⟨mx a.lo b.lo, mn a.hi b.hi, false⟩ = false := by
      rw [← Bool.not_eq_true, fine_iff]
      simp only
      omega
    rw [told_no this, decide_eq_true h]; rfl
  · have : fine ⟨mx a.lo b.lo, mn a.hi b.hi, false⟩ = true := by
      refine fine_iff.2 ⟨rfl, ?_, by simp only; omega, ?_⟩ <;> simp only [mn, mx] <;> split <;> omega
    rw [told_ok this, decide_eq_false h]
theorem meet_holds {a b : Iv} (h : (meetI a b).bad = false) : holdsI a (meetI a b) = true ∧ holdsI b (meetI a b) = true := by
  unfold meetI at h ⊢
  cases hf : fineL [a, b] with
  | false => rw [hf] at h; cases h
  | true =>
    rw [hf] at h
    obtain ⟨h1, h2⟩ := told_good h
    obtain ⟨fa, fb⟩ := fine2.1 hf
    simp only [cond_true]
    rw [h2]
    constructor
    · refine holds_mk fa h1 ?_ ?_ <;> simp only [mn, mx] <;> split <;> omega
    · refine holds_mk fb h1 ?_ ?_ <;> simp only [mn, mx] <;> split <;> omega
theorem IP0_run (a b c d : Iv) : runF P EL 1 4 [I a, I b, I c, I d] (.lit :: (.b true :: [])) =
  some (.bool true,
    [fineP [ivs [a, b, c, d]],
     (!(fineL [a, b, c, d])) = true,
     wakesP []]) := by kernel_rfl
theorem IP0_leaf (a b c d : Iv) (hf : fineL [a, b, c, d] = false) : Gives P 4 #[I a, I b, I c, I d] (.bool true) := by
  have R := IP0_run a b c d
  refine gives_of_run mo R (ps_cons (ivs_ok (by simp)) (ps_cons (neg_t hf) (ps_cons trivial ps_nil))) ?_
  rfl
theorem IPffff_run (a b c d : Iv) : runF P EL 1 4 [I a, I b, I c, I d] (.lit :: (.b false :: (.lit :: (.b false :: (.b false :: (.b false :: (.b false :: (.b false :: (.b false :: (.b true :: (.b false :: (.b false :: (.b false :: (.b true :: (.b false :: (.b true :: (.b false :: (.b true :: [])))))))))))))))))) =
  some (.bool true,
    [fineP [ivs [a, b, c, d]],
     (!(fineL [a, b, c, d])) = false,
     fineP [ivs [a, b, c]],
     iP2 [I (hullI [a, b, c]), I a],
     (!(holdsI (hullI [a, b, c]) a)) = false,
     iP2 [I (hullI [a, b, c]), I b],
     (!(holdsI (hullI [a, b, c]) b)) = false,
     iP2 [I (hullI [a, b, c]), I c],
     (!(holdsI (hullI [a, b, c]) c)) = false,
     ((hullI [a, b, c]).lo != (if c.lo < (if b.lo < a.lo then b.lo else a.lo) then c.lo else (if b.lo < a.lo then b.lo else a.lo))) = false,
     ((hullI [a, b, c]).hi != (if c.hi > (if b.hi > a.hi then b.hi else a.hi) then c.hi else (if b.hi > a.hi then b.hi else a.hi))) = false,
     iP2 [I a, I b],
     (((meetI a b).bad) != (decide ((if b.lo > a.lo then b.lo else a.lo) > (if b.hi < a.hi then b.hi else a.hi)))) = false,
     (!((meetI a b).bad)) = true,
     iP2 [I a, I (meetI a b)],
     (!(holdsI a (meetI a b))) = false,
     iP2 [I b, I (meetI a b)],
     (!(holdsI b (meetI a b))) = false,
     iP2 [I a, I d],
     iP2 [I (hullI [a, b, c]), I d],
     iP2 [I a, I d],
     iP2 [I (hullI [a, b, c]), I d],
     iP2 [I d, I a],
     iP2 [I d, I (hullI [a, b, c])],
     ((mulI (hullI [a, b, c]) d).bad) = false,
     iP2 [I (mulI (hullI [a, b, c]) d), I (mulI a d)],
     (holdsI (mulI (hullI [a, b, c]) d) (mulI a d)) = true,
     ((addI (hullI [a, b, c]) d).bad) = false,
     iP2 [I (addI (hullI [a, b, c]) d), I (addI a d)],
     (holdsI (addI (hullI [a, b, c]) d) (addI a d)) = true,
     ((subI d (hullI [a, b, c])).bad) = false,
     iP2 [I (subI d (hullI [a, b, c])), I (subI d a)],
     (holdsI (subI d (hullI [a, b, c])) (subI d a)) = true,
     wakesP []]) := by kernel_rfl
theorem IPffff_leaf (a b c d : Iv) (hf : fineL [a, b, c, d] = true) (m0 : (meetI a b).bad = false) (y0 : (mulI (hullI [a, b, c]) d).bad = false) (v0 : (addI (hullI [a, b, c]) d).bad = false) (t0 : (subI d (hullI [a, b, c])).bad = false) : Gives P 4 #[I a, I b, I c, I d] (.bool true) := by
  have h4 : (fine a && (fine b && (fine c && (fine d && true)))) = true := hf
  simp only [Bool.and_eq_true] at h4
  obtain ⟨fa, fb, fc, fd, _⟩ := h4
  have H := hul fa fb fc
  have g1 : holdsI (hullI [a, b, c]) a = true := holds_mk H.ok fa H.lo.1 H.hi.1
  have g2 : holdsI (hullI [a, b, c]) b = true := holds_mk H.ok fb H.lo.2.1 H.hi.2.1
  have g3 : holdsI (hullI [a, b, c]) c = true := holds_mk H.ok fc H.lo.2.2 H.hi.2.2
  have R := IPffff_run a b c d
  refine gives_of_run mo R (ps_cons (ivs_ok (by simp)) (ps_cons (neg_f hf) (ps_cons (ivs_ok (by simp)) (ps_cons ⟨⟨_, rfl⟩, _, rfl⟩ (ps_cons (neg_f g1) (ps_cons ⟨⟨_, rfl⟩, _, rfl⟩ (ps_cons (neg_f g2) (ps_cons ⟨⟨_, rfl⟩, _, rfl⟩ (ps_cons (neg_f g3) (ps_cons (by rw [H.eq]; exact bne_self_eq_false _) (ps_cons (by rw [H.eq]; exact bne_self_eq_false _) (ps_cons ⟨⟨_, rfl⟩, _, rfl⟩ (ps_cons (by rw [meet_bad fa fb]; exact bne_self_eq_false _) (ps_cons (neg_t m0) (ps_cons ⟨⟨_, rfl⟩, _, rfl⟩ (ps_cons (neg_f (meet_holds m0).1) (ps_cons ⟨⟨_, rfl⟩, _, rfl⟩ (ps_cons (neg_f (meet_holds m0).2) (ps_cons ⟨⟨_, rfl⟩, _, rfl⟩ (ps_cons ⟨⟨_, rfl⟩, _, rfl⟩ (ps_cons ⟨⟨_, rfl⟩, _, rfl⟩ (ps_cons ⟨⟨_, rfl⟩, _, rfl⟩ (ps_cons ⟨⟨_, rfl⟩, _, rfl⟩ (ps_cons ⟨⟨_, rfl⟩, _, rfl⟩ (ps_cons y0 (ps_cons ⟨⟨_, rfl⟩, _, rfl⟩ (ps_cons (mul_mono fa H.lo.1 H.hi.1 y0) (ps_cons v0 (ps_cons ⟨⟨_, rfl⟩, _, rfl⟩ (ps_cons (add_mono fa H.lo.1 H.hi.1 v0) (ps_cons t0 (ps_cons ⟨⟨_, rfl⟩, _, rfl⟩ (ps_cons (sub_mono fa H.lo.1 H.hi.1 t0) (ps_cons trivial ps_nil)))))))))))))))))))))))))))))))))) ?_
  rfl
theorem IPffft_run (a b c d : Iv) : runF P EL 1 4 [I a, I b, I c, I d] (.lit :: (.b false :: (.lit :: (.b false :: (.b false :: (.b false :: (.b false :: (.b false :: (.b false :: (.b true :: (.b false :: (.b false :: (.b false :: (.b true :: (.b false :: (.b true :: (.b true :: []))))))))))))))))) =
  some (.bool true,
    [fineP [ivs [a, b, c, d]],
     (!(fineL [a, b, c, d])) = false,
     fineP [ivs [a, b, c]],
     iP2 [I (hullI [a, b, c]), I a],
     (!(holdsI (hullI [a, b, c]) a)) = false,
     iP2 [I (hullI [a, b, c]), I b],
     (!(holdsI (hullI [a, b, c]) b)) = false,
     iP2 [I (hullI [a, b, c]), I c],
     (!(holdsI (hullI [a, b, c]) c)) = false,
     ((hullI [a, b, c]).lo != (if c.lo < (if b.lo < a.lo then b.lo else a.lo) then c.lo else (if b.lo < a.lo then b.lo else a.lo))) = false,
     ((hullI [a, b, c]).hi != (if c.hi > (if b.hi > a.hi then b.hi else a.hi) then c.hi else (if b.hi > a.hi then b.hi else a.hi))) = false,
     iP2 [I a, I b],
     (((meetI a b).bad) != (decide ((if b.lo > a.lo then b.lo else a.lo) > (if b.hi < a.hi then b.hi else a.hi)))) = false,
     (!((meetI a b).bad)) = true,
     iP2 [I a, I (meetI a b)],
     (!(holdsI a (meetI a b))) = false,
     iP2 [I b, I (meetI a b)],
     (!(holdsI b (meetI a b))) = false,
     iP2 [I a, I d],
     iP2 [I (hullI [a, b, c]), I d],
     iP2 [I a, I d],
     iP2 [I (hullI [a, b, c]), I d],
     iP2 [I d, I a],
     iP2 [I d, I (hullI [a, b, c])],
     ((mulI (hullI [a, b, c]) d).bad) = false,
     iP2 [I (mulI (hullI [a, b, c]) d), I (mulI a d)],
     (holdsI (mulI (hullI [a, b, c]) d) (mulI a d)) = true,
     ((addI (hullI [a, b, c]) d).bad) = false,
     iP2 [I (addI (hullI [a, b, c]) d), I (addI a d)],
     (holdsI (addI (hullI [a, b, c]) d) (addI a d)) = true,
     ((subI d (hullI [a, b, c])).bad) = true,
     wakesP []]) := by kernel_rfl
theorem IPffft_leaf (a b c d : Iv) (hf : fineL [a, b, c, d] = true) (m0 : (meetI a b).bad = false) (y0 : (mulI (hullI [a, b, c]) d).bad = false) (v0 : (addI (hullI [a, b, c]) d).bad = false) (t0 : (subI d (hullI [a, b, c])).bad = true) : Gives P 4 #[I a, I b, I c, I d] (.bool true) := by
  have h4 : (fine a && (fine b && (fine c && (fine d && true)))) = true := hf
  simp only [Bool.and_eq_true] at h4
  obtain ⟨fa, fb, fc, fd, _⟩ := h4
  have H := hul fa fb fc
  have g1 : holdsI (hullI [a, b, c]) a = true := holds_mk H.ok fa H.lo.1 H.hi.1
  have g2 : holdsI (hullI [a, b, c]) b = true := holds_mk H.ok fb H.lo.2.1 H.hi.2.1
  have g3 : holdsI (hullI [a, b, c]) c = true := holds_mk H.ok fc H.lo.2.2 H.hi.2.2
  have R := IPffft_run a b c d
  refine gives_of_run mo R (ps_cons (ivs_ok (by simp)) (ps_cons (neg_f hf) (ps_cons (ivs_ok (by simp)) (ps_cons ⟨⟨_, rfl⟩, _, rfl⟩ (ps_cons (neg_f g1) (ps_cons ⟨⟨_, rfl⟩, _, rfl⟩ (ps_cons (neg_f g2) (ps_cons ⟨⟨_, rfl⟩, _, rfl⟩ (ps_cons (neg_f g3) (ps_cons (by rw [H.eq]; exact bne_self_eq_false _) (ps_cons (by rw [H.eq]; exact bne_self_eq_false _) (ps_cons ⟨⟨_, rfl⟩, _, rfl⟩ (ps_cons (by rw [meet_bad fa fb]; exact bne_self_eq_false _) (ps_cons (neg_t m0) (ps_cons ⟨⟨_, rfl⟩, _, rfl⟩ (ps_cons (neg_f (meet_holds m0).1) (ps_cons ⟨⟨_, rfl⟩, _, rfl⟩ (ps_cons (neg_f (meet_holds m0).2) (ps_cons ⟨⟨_, rfl⟩, _, rfl⟩ (ps_cons ⟨⟨_, rfl⟩, _, rfl⟩ (ps_cons ⟨⟨_, rfl⟩, _, rfl⟩ (ps_cons ⟨⟨_, rfl⟩, _, rfl⟩ (ps_cons ⟨⟨_, rfl⟩, _, rfl⟩ (ps_cons ⟨⟨_, rfl⟩, _, rfl⟩ (ps_cons y0 (ps_cons ⟨⟨_, rfl⟩, _, rfl⟩ (ps_cons (mul_mono fa H.lo.1 H.hi.1 y0) (ps_cons v0 (ps_cons ⟨⟨_, rfl⟩, _, rfl⟩ (ps_cons (add_mono fa H.lo.1 H.hi.1 v0) (ps_cons t0 (ps_cons trivial ps_nil)))))))))))))))))))))))))))))))) ?_
  rfl
theorem IPfftf_run (a b c d : Iv) : runF P EL 1 4 [I a, I b, I c, I d] (.lit :: (.b false :: (.lit :: (.b false :: (.b false :: (.b false :: (.b false :: (.b false :: (.b false :: (.b true :: (.b false :: (.b false :: (.b false :: (.b true :: (.b true :: (.lit :: (.b false :: (.b true :: [])))))))))))))))))) =
  some (.bool true,
    [fineP [ivs [a, b, c, d]],
     (!(fineL [a, b, c, d])) = false,
     fineP [ivs [a, b, c]],
     iP2 [I (hullI [a, b, c]), I a],
     (!(holdsI (hullI [a, b, c]) a)) = false,
     iP2 [I (hullI [a, b, c]), I b],
     (!(holdsI (hullI [a, b, c]) b)) = false,
     iP2 [I (hullI [a, b, c]), I c],
     (!(holdsI (hullI [a, b, c]) c)) = false,
     ((hullI [a, b, c]).lo != (if c.lo < (if b.lo < a.lo then b.lo else a.lo) then c.lo else (if b.lo < a.lo then b.lo else a.lo))) = false,
     ((hullI [a, b, c]).hi != (if c.hi > (if b.hi > a.hi then b.hi else a.hi) then c.hi else (if b.hi > a.hi then b.hi else a.hi))) = false,
     iP2 [I a, I b],
     (((meetI a b).bad) != (decide ((if b.lo > a.lo then b.lo else a.lo) > (if b.hi < a.hi then b.hi else a.hi)))) = false,
     (!((meetI a b).bad)) = true,
     iP2 [I a, I (meetI a b)],
     (!(holdsI a (meetI a b))) = false,
     iP2 [I b, I (meetI a b)],
     (!(holdsI b (meetI a b))) = false,
     iP2 [I a, I d],
     iP2 [I (hullI [a, b, c]), I d],
     iP2 [I a, I d],
     iP2 [I (hullI [a, b, c]), I d],
     iP2 [I d, I a],
     iP2 [I d, I (hullI [a, b, c])],
     ((mulI (hullI [a, b, c]) d).bad) = false,
     iP2 [I (mulI (hullI [a, b, c]) d), I (mulI a d)],
     (holdsI (mulI (hullI [a, b, c]) d) (mulI a d)) = true,
     ((addI (hullI [a, b, c]) d).bad) = true,
     ((subI d (hullI [a, b, c])).bad) = false,
     iP2 [I (subI d (hullI [a, b, c])), I (subI d a)],
     (holdsI (subI d (hullI [a, b, c])) (subI d a)) = true,
     wakesP []]) := by kernel_rfl
theorem IPfftf_leaf (a b c d : Iv) (hf : fineL [a, b, c, d] = true) (m0 : (meetI a b).bad = false) (y0 : (mulI (hullI [a, b, c]) d).bad = false) (v0 : (addI (hullI [a, b, c]) d).bad = true) (t0 : (subI d (hullI [a, b, c])).bad = false) : Gives P 4 #[I a, I b, I c, I d] (.bool true) := by
  have h4 : (fine a && (fine b && (fine c && (fine d && true)))) = true := hf
  simp only [Bool.and_eq_true] at h4
  obtain ⟨fa, fb, fc, fd, _⟩ := h4
  have H := hul fa fb fc
  have g1 : holdsI (hullI [a, b, c]) a = true := holds_mk H.ok fa H.lo.1 H.hi.1
  have g2 : holdsI (hullI [a, b, c]) b = true := holds_mk H.ok fb H.lo.2.1 H.hi.2.1
  have g3 : holdsI (hullI [a, b, c]) c = true := holds_mk H.ok fc H.lo.2.2 H.hi.2.2
  have R := IPfftf_run a b c d
  refine gives_of_run mo R (ps_cons (ivs_ok (by simp)) (ps_cons (neg_f hf) (ps_cons (ivs_ok (by simp)) (ps_cons ⟨⟨_, rfl⟩, _, rfl⟩ (ps_cons (neg_f g1) (ps_cons ⟨⟨_, rfl⟩, _, rfl⟩ (ps_cons (neg_f g2) (ps_cons ⟨⟨_, rfl⟩, _, rfl⟩ (ps_cons (neg_f g3) (ps_cons (by rw [H.eq]; exact bne_self_eq_false _) (ps_cons (by rw [H.eq]; exact bne_self_eq_false _) (ps_cons ⟨⟨_, rfl⟩, _, rfl⟩ (ps_cons (by rw [meet_bad fa fb]; exact bne_self_eq_false _) (ps_cons (neg_t m0) (ps_cons ⟨⟨_, rfl⟩, _, rfl⟩ (ps_cons (neg_f (meet_holds m0).1) (ps_cons ⟨⟨_, rfl⟩, _, rfl⟩ (ps_cons (neg_f (meet_holds m0).2) (ps_cons ⟨⟨_, rfl⟩, _, rfl⟩ (ps_cons ⟨⟨_, rfl⟩, _, rfl⟩ (ps_cons ⟨⟨_, rfl⟩, _, rfl⟩ (ps_cons ⟨⟨_, rfl⟩, _, rfl⟩ (ps_cons ⟨⟨_, rfl⟩, _, rfl⟩ (ps_cons ⟨⟨_, rfl⟩, _, rfl⟩ (ps_cons y0 (ps_cons ⟨⟨_, rfl⟩, _, rfl⟩ (ps_cons (mul_mono fa H.lo.1 H.hi.1 y0) (ps_cons v0 (ps_cons t0 (ps_cons ⟨⟨_, rfl⟩, _, rfl⟩ (ps_cons (sub_mono fa H.lo.1 H.hi.1 t0) (ps_cons trivial ps_nil)))))))))))))))))))))))))))))))) ?_
  rfl
theorem IPfftt_run (a b c d : Iv) : runF P EL 1 4 [I a, I b, I c, I d] (.lit :: (.b false :: (.lit :: (.b false :: (.b false :: (.b false :: (.b false :: (.b false :: (.b false :: (.b true :: (.b false :: (.b false :: (.b false :: (.b true :: (.b true :: (.lit :: (.b true :: []))))))))))))))))) =
  some (.bool true,
    [fineP [ivs [a, b, c, d]],
     (!(fineL [a, b, c, d])) = false,
     fineP [ivs [a, b, c]],
     iP2 [I (hullI [a, b, c]), I a],
     (!(holdsI (hullI [a, b, c]) a)) = false,
     iP2 [I (hullI [a, b, c]), I b],
     (!(holdsI (hullI [a, b, c]) b)) = false,
     iP2 [I (hullI [a, b, c]), I c],
     (!(holdsI (hullI [a, b, c]) c)) = false,
     ((hullI [a, b, c]).lo != (if c.lo < (if b.lo < a.lo then b.lo else a.lo) then c.lo else (if b.lo < a.lo then b.lo else a.lo))) = false,
     ((hullI [a, b, c]).hi != (if c.hi > (if b.hi > a.hi then b.hi else a.hi) then c.hi else (if b.hi > a.hi then b.hi else a.hi))) = false,
     iP2 [I a, I b],
     (((meetI a b).bad) != (decide ((if b.lo > a.lo then b.lo else a.lo) > (if b.hi < a.hi then b.hi else a.hi)))) = false,
     (!((meetI a b).bad)) = true,
     iP2 [I a, I (meetI a b)],
     (!(holdsI a (meetI a b))) = false,
     iP2 [I b, I (meetI a b)],
     (!(holdsI b (meetI a b))) = false,
     iP2 [I a, I d],
     iP2 [I (hullI [a, b, c]), I d],
     iP2 [I a, I d],
     iP2 [I (hullI [a, b, c]), I d],
     iP2 [I d, I a],
     iP2 [I d, I (hullI [a, b, c])],
     ((mulI (hullI [a, b, c]) d).bad) = false,
     iP2 [I (mulI (hullI [a, b, c]) d), I (mulI a d)],
     (holdsI (mulI (hullI [a, b, c]) d) (mulI a d)) = true,
     ((addI (hullI [a, b, c]) d).bad) = true,
     ((subI d (hullI [a, b, c])).bad) = true,
     wakesP []]) := by kernel_rfl
theorem IPfftt_leaf (a b c d : Iv) (hf : fineL [a, b, c, d] = true) (m0 : (meetI a b).bad = false) (y0 : (mulI (hullI [a, b, c]) d).bad = false) (v0 : (addI (hullI [a, b, c]) d).bad = true) (t0 : (subI d (hullI [a, b, c])).bad = true) : Gives P 4 #[I a, I b, I c, I d] (.bool true) := by
  have h4 : (fine a && (fine b && (fine c && (fine d && true)))) = true := hf
  simp only [Bool.and_eq_true] at h4
  obtain ⟨fa, fb, fc, fd, _⟩ := h4
  have H := hul fa fb fc
  have g1 : holdsI (hullI [a, b, c]) a = true := holds_mk H.ok fa H.lo.1 H.hi.1
  have g2 : holdsI (hullI [a, b, c]) b = true := holds_mk H.ok fb H.lo.2.1 H.hi.2.1
  have g3 : holdsI (hullI [a, b, c]) c = true := holds_mk H.ok fc H.lo.2.2 H.hi.2.2
  have R := IPfftt_run a b c d
  refine gives_of_run mo R (ps_cons (ivs_ok (by simp)) (ps_cons (neg_f hf) (ps_cons (ivs_ok (by simp)) (ps_cons ⟨⟨_, rfl⟩, _, rfl⟩ (ps_cons (neg_f g1) (ps_cons ⟨⟨_, rfl⟩, _, rfl⟩ (ps_cons (neg_f g2) (ps_cons ⟨⟨_, rfl⟩, _, rfl⟩ (ps_cons (neg_f g3) (ps_cons (by rw [H.eq]; exact bne_self_eq_false _) (ps_cons (by rw [H.eq]; exact bne_self_eq_false _) (ps_cons ⟨⟨_, rfl⟩, _, rfl⟩ (ps_cons (by rw [meet_bad fa fb]; exact bne_self_eq_false _) (ps_cons (neg_t m0) (ps_cons ⟨⟨_, rfl⟩, _, rfl⟩ (ps_cons (neg_f (meet_holds m0).1) (ps_cons ⟨⟨_, rfl⟩, _, rfl⟩ (ps_cons (neg_f (meet_holds m0).2) (ps_cons ⟨⟨_, rfl⟩, _, rfl⟩ (ps_cons ⟨⟨_, rfl⟩, _, rfl⟩ (ps_cons ⟨⟨_, rfl⟩, _, rfl⟩ (ps_cons ⟨⟨_, rfl⟩, _, rfl⟩ (ps_cons ⟨⟨_, rfl⟩, _, rfl⟩ (ps_cons ⟨⟨_, rfl⟩, _, rfl⟩ (ps_cons y0 (ps_cons ⟨⟨_, rfl⟩, _, rfl⟩ (ps_cons (mul_mono fa H.lo.1 H.hi.1 y0) (ps_cons v0 (ps_cons t0 (ps_cons trivial ps_nil)))))))))))))))))))))))))))))) ?_
  rfl
theorem IPftff_run (a b c d : Iv) : runF P EL 1 4 [I a, I b, I c, I d] (.lit :: (.b false :: (.lit :: (.b false :: (.b false :: (.b false :: (.b false :: (.b false :: (.b false :: (.b true :: (.b false :: (.b false :: (.b true :: (.lit :: (.b false :: (.b true :: (.b false :: (.b true :: [])))))))))))))))))) =
  some (.bool true,
    [fineP [ivs [a, b, c, d]],
     (!(fineL [a, b, c, d])) = false,
     fineP [ivs [a, b, c]],
     iP2 [I (hullI [a, b, c]), I a],
     (!(holdsI (hullI [a, b, c]) a)) = false,
     iP2 [I (hullI [a, b, c]), I b],
     (!(holdsI (hullI [a, b, c]) b)) = false,
     iP2 [I (hullI [a, b, c]), I c],
     (!(holdsI (hullI [a, b, c]) c)) = false,
     ((hullI [a, b, c]).lo != (if c.lo < (if b.lo < a.lo then b.lo else a.lo) then c.lo else (if b.lo < a.lo then b.lo else a.lo))) = false,
     ((hullI [a, b, c]).hi != (if c.hi > (if b.hi > a.hi then b.hi else a.hi) then c.hi else (if b.hi > a.hi then b.hi else a.hi))) = false,
     iP2 [I a, I b],
     (((meetI a b).bad) != (decide ((if b.lo > a.lo then b.lo else a.lo) > (if b.hi < a.hi then b.hi else a.hi)))) = false,
     (!((meetI a b).bad)) = true,
     iP2 [I a, I (meetI a b)],
     (!(holdsI a (meetI a b))) = false,
     iP2 [I b, I (meetI a b)],
     (!(holdsI b (meetI a b))) = false,
     iP2 [I a, I d],
     iP2 [I (hullI [a, b, c]), I d],
     iP2 [I a, I d],
     iP2 [I (hullI [a, b, c]), I d],
     iP2 [I d, I a],
     iP2 [I d, I (hullI [a, b, c])],
     ((mulI (hullI [a, b, c]) d).bad) = true,
     ((addI (hullI [a, b, c]) d).bad) = false,
     iP2 [I (addI (hullI [a, b, c]) d), I (addI a d)],
     (holdsI (addI (hullI [a, b, c]) d) (addI a d)) = true,
     ((subI d (hullI [a, b, c])).bad) = false,
     iP2 [I (subI d (hullI [a, b, c])), I (subI d a)],
     (holdsI (subI d (hullI [a, b, c])) (subI d a)) = true,
     wakesP []]) := by kernel_rfl
theorem IPftff_leaf (a b c d : Iv) (hf : fineL [a, b, c, d] = true) (m0 : (meetI a b).bad = false) (y0 : (mulI (hullI [a, b, c]) d).bad = true) (v0 : (addI (hullI [a, b, c]) d).bad = false) (t0 : (subI d (hullI [a, b, c])).bad = false) : Gives P 4 #[I a, I b, I c, I d] (.bool true) := by
  have h4 : (fine a && (fine b && (fine c && (fine d && true)))) = true := hf
  simp only [Bool.and_eq_true] at h4
  obtain ⟨fa, fb, fc, fd, _⟩ := h4
  have H := hul fa fb fc
  have g1 : holdsI (hullI [a, b, c]) a = true := holds_mk H.ok fa H.lo.1 H.hi.1
  have g2 : holdsI (hullI [a, b, c]) b = true := holds_mk H.ok fb H.lo.2.1 H.hi.2.1
  have g3 : holdsI (hullI [a, b, c]) c = true := holds_mk H.ok fc H.lo.2.2 H.hi.2.2
  have R := IPftff_run a b c d
  refine gives_of_run mo R (ps_cons (ivs_ok (by simp)) (ps_cons (neg_f hf) (ps_cons (ivs_ok (by simp)) (ps_cons ⟨⟨_, rfl⟩, _, rfl⟩ (ps_cons (neg_f g1) (ps_cons ⟨⟨_, rfl⟩, _, rfl⟩ (ps_cons (neg_f g2) (ps_cons ⟨⟨_, rfl⟩, _, rfl⟩ (ps_cons (neg_f g3) (ps_cons (by rw [H.eq]; exact bne_self_eq_false _) (ps_cons (by rw [H.eq]; exact bne_self_eq_false _) (ps_cons ⟨⟨_, rfl⟩, _, rfl⟩ (ps_cons (by rw [meet_bad fa fb]; exact bne_self_eq_false _) (ps_cons (neg_t m0) (ps_cons ⟨⟨_, rfl⟩, _, rfl⟩ (ps_cons (neg_f (meet_holds m0).1) (ps_cons ⟨⟨_, rfl⟩, _, rfl⟩ (ps_cons (neg_f (meet_holds m0).2) (ps_cons ⟨⟨_, rfl⟩, _, rfl⟩ (ps_cons ⟨⟨_, rfl⟩, _, rfl⟩ (ps_cons ⟨⟨_, rfl⟩, _, rfl⟩ (ps_cons ⟨⟨_, rfl⟩, _, rfl⟩ (ps_cons ⟨⟨_, rfl⟩, _, rfl⟩ (ps_cons ⟨⟨_, rfl⟩, _, rfl⟩ (ps_cons y0 (ps_cons v0 (ps_cons ⟨⟨_, rfl⟩, _, rfl⟩ (ps_cons (add_mono fa H.lo.1 H.hi.1 v0) (ps_cons t0 (ps_cons ⟨⟨_, rfl⟩, _, rfl⟩ (ps_cons (sub_mono fa H.lo.1 H.hi.1 t0) (ps_cons trivial ps_nil)))))))))))))))))))))))))))))))) ?_
  rfl
theorem IPftft_run (a b c d : Iv) : runF P EL 1 4 [I a, I b, I c, I d] (.lit :: (.b false :: (.lit :: (.b false :: (.b false :: (.b false :: (.b false :: (.b false :: (.b false :: (.b true :: (.b false :: (.b false :: (.b true :: (.lit :: (.b false :: (.b true :: (.b true :: []))))))))))))))))) =
  some (.bool true,
    [fineP [ivs [a, b, c, d]],
     (!(fineL [a, b, c, d])) = false,
     fineP [ivs [a, b, c]],
     iP2 [I (hullI [a, b, c]), I a],
     (!(holdsI (hullI [a, b, c]) a)) = false,
     iP2 [I (hullI [a, b, c]), I b],
     (!(holdsI (hullI [a, b, c]) b)) = false,
     iP2 [I (hullI [a, b, c]), I c],
     (!(holdsI (hullI [a, b, c]) c)) = false,
     ((hullI [a, b, c]).lo != (if c.lo < (if b.lo < a.lo then b.lo else a.lo) then c.lo else (if b.lo < a.lo then b.lo else a.lo))) = false,
     ((hullI [a, b, c]).hi != (if c.hi > (if b.hi > a.hi then b.hi else a.hi) then c.hi else (if b.hi > a.hi then b.hi else a.hi))) = false,
     iP2 [I a, I b],
     (((meetI a b).bad) != (decide ((if b.lo > a.lo then b.lo else a.lo) > (if b.hi < a.hi then b.hi else a.hi)))) = false,
     (!((meetI a b).bad)) = true,
     iP2 [I a, I (meetI a b)],
     (!(holdsI a (meetI a b))) = false,
     iP2 [I b, I (meetI a b)],
     (!(holdsI b (meetI a b))) = false,
     iP2 [I a, I d],
     iP2 [I (hullI [a, b, c]), I d],
     iP2 [I a, I d],
     iP2 [I (hullI [a, b, c]), I d],
     iP2 [I d, I a],
     iP2 [I d, I (hullI [a, b, c])],
     ((mulI (hullI [a, b, c]) d).bad) = true,
     ((addI (hullI [a, b, c]) d).bad) = false,
     iP2 [I (addI (hullI [a, b, c]) d), I (addI a d)],
     (holdsI (addI (hullI [a, b, c]) d) (addI a d)) = true,
     ((subI d (hullI [a, b, c])).bad) = true,
     wakesP []]) := by kernel_rfl
theorem IPftft_leaf (a b c d : Iv) (hf : fineL [a, b, c, d] = true) (m0 : (meetI a b).bad = false) (y0 : (mulI (hullI [a, b, c]) d).bad = true) (v0 : (addI (hullI [a, b, c]) d).bad = false) (t0 : (subI d (hullI [a, b, c])).bad = true) : Gives P 4 #[I a, I b, I c, I d] (.bool true) := by
  have h4 : (fine a && (fine b && (fine c && (fine d && true)))) = true := hf
  simp only [Bool.and_eq_true] at h4
  obtain ⟨fa, fb, fc, fd, _⟩ := h4
  have H := hul fa fb fc
  have g1 : holdsI (hullI [a, b, c]) a = true := holds_mk H.ok fa H.lo.1 H.hi.1
  have g2 : holdsI (hullI [a, b, c]) b = true := holds_mk H.ok fb H.lo.2.1 H.hi.2.1
  have g3 : holdsI (hullI [a, b, c]) c = true := holds_mk H.ok fc H.lo.2.2 H.hi.2.2
  have R := IPftft_run a b c d
  refine gives_of_run mo R (ps_cons (ivs_ok (by simp)) (ps_cons (neg_f hf) (ps_cons (ivs_ok (by simp)) (ps_cons ⟨⟨_, rfl⟩, _, rfl⟩ (ps_cons (neg_f g1) (ps_cons ⟨⟨_, rfl⟩, _, rfl⟩ (ps_cons (neg_f g2) (ps_cons ⟨⟨_, rfl⟩, _, rfl⟩ (ps_cons (neg_f g3) (ps_cons (by rw [H.eq]; exact bne_self_eq_false _) (ps_cons (by rw [H.eq]; exact bne_self_eq_false _) (ps_cons ⟨⟨_, rfl⟩, _, rfl⟩ (ps_cons (by rw [meet_bad fa fb]; exact bne_self_eq_false _) (ps_cons (neg_t m0) (ps_cons ⟨⟨_, rfl⟩, _, rfl⟩ (ps_cons (neg_f (meet_holds m0).1) (ps_cons ⟨⟨_, rfl⟩, _, rfl⟩ (ps_cons (neg_f (meet_holds m0).2) (ps_cons ⟨⟨_, rfl⟩, _, rfl⟩ (ps_cons ⟨⟨_, rfl⟩, _, rfl⟩ (ps_cons ⟨⟨_, rfl⟩, _, rfl⟩ (ps_cons ⟨⟨_, rfl⟩, _, rfl⟩ (ps_cons ⟨⟨_, rfl⟩, _, rfl⟩ (ps_cons ⟨⟨_, rfl⟩, _, rfl⟩ (ps_cons y0 (ps_cons v0 (ps_cons ⟨⟨_, rfl⟩, _, rfl⟩ (ps_cons (add_mono fa H.lo.1 H.hi.1 v0) (ps_cons t0 (ps_cons trivial ps_nil)))))))))))))))))))))))))))))) ?_
  rfl
theorem IPfttf_run (a b c d : Iv) : runF P EL 1 4 [I a, I b, I c, I d] (.lit :: (.b false :: (.lit :: (.b false :: (.b false :: (.b false :: (.b false :: (.b false :: (.b false :: (.b true :: (.b false :: (.b false :: (.b true :: (.lit :: (.b true :: (.lit :: (.b false :: (.b true :: [])))))))))))))))))) =
  some (.bool true,
    [fineP [ivs [a, b, c, d]],
     (!(fineL [a, b, c, d])) = false,
     fineP [ivs [a, b, c]],
     iP2 [I (hullI [a, b, c]), I a],
     (!(holdsI (hullI [a, b, c]) a)) = false,
     iP2 [I (hullI [a, b, c]), I b],
     (!(holdsI (hullI [a, b, c]) b)) = false,
     iP2 [I (hullI [a, b, c]), I c],
     (!(holdsI (hullI [a, b, c]) c)) = false,
     ((hullI [a, b, c]).lo != (if c.lo < (if b.lo < a.lo then b.lo else a.lo) then c.lo else (if b.lo < a.lo then b.lo else a.lo))) = false,
     ((hullI [a, b, c]).hi != (if c.hi > (if b.hi > a.hi then b.hi else a.hi) then c.hi else (if b.hi > a.hi then b.hi else a.hi))) = false,
     iP2 [I a, I b],
     (((meetI a b).bad) != (decide ((if b.lo > a.lo then b.lo else a.lo) > (if b.hi < a.hi then b.hi else a.hi)))) = false,
     (!((meetI a b).bad)) = true,
     iP2 [I a, I (meetI a b)],
     (!(holdsI a (meetI a b))) = false,
     iP2 [I b, I (meetI a b)],
     (!(holdsI b (meetI a b))) = false,
     iP2 [I a, I d],
     iP2 [I (hullI [a, b, c]), I d],
     iP2 [I a, I d],
     iP2 [I (hullI [a, b, c]), I d],
     iP2 [I d, I a],
     iP2 [I d, I (hullI [a, b, c])],
     ((mulI (hullI [a, b, c]) d).bad) = true,
     ((addI (hullI [a, b, c]) d).bad) = true,
     ((subI d (hullI [a, b, c])).bad) = false,
     iP2 [I (subI d (hullI [a, b, c])), I (subI d a)],
     (holdsI (subI d (hullI [a, b, c])) (subI d a)) = true,
     wakesP []]) := by kernel_rfl
theorem IPfttf_leaf (a b c d : Iv) (hf : fineL [a, b, c, d] = true) (m0 : (meetI a b).bad = false) (y0 : (mulI (hullI [a, b, c]) d).bad = true) (v0 : (addI (hullI [a, b, c]) d).bad = true) (t0 : (subI d (hullI [a, b, c])).bad = false) : Gives P 4 #[I a, I b, I c, I d] (.bool true) := by
  have h4 : (fine a && (fine b && (fine c && (fine d && true)))) = true := hf
  simp only [Bool.and_eq_true] at h4
  obtain ⟨fa, fb, fc, fd, _⟩ := h4
  have H := hul fa fb fc
  have g1 : holdsI (hullI [a, b, c]) a = true := holds_mk H.ok fa H.lo.1 H.hi.1
  have g2 : holdsI (hullI [a, b, c]) b = true := holds_mk H.ok fb H.lo.2.1 H.hi.2.1
  have g3 : holdsI (hullI [a, b, c]) c = true := holds_mk H.ok fc H.lo.2.2 H.hi.2.2
  have R := IPfttf_run a b c d
  refine gives_of_run mo R (ps_cons (ivs_ok (by simp)) (ps_cons (neg_f hf) (ps_cons (ivs_ok (by simp)) (ps_cons ⟨⟨_, rfl⟩, _, rfl⟩ (ps_cons (neg_f g1) (ps_cons ⟨⟨_, rfl⟩, _, rfl⟩ (ps_cons (neg_f g2) (ps_cons ⟨⟨_, rfl⟩, _, rfl⟩ (ps_cons (neg_f g3) (ps_cons (by rw [H.eq]; exact bne_self_eq_false _) (ps_cons (by rw [H.eq]; exact bne_self_eq_false _) (ps_cons ⟨⟨_, rfl⟩, _, rfl⟩ (ps_cons (by rw [meet_bad fa fb]; exact bne_self_eq_false _) (ps_cons (neg_t m0) (ps_cons ⟨⟨_, rfl⟩, _, rfl⟩ (ps_cons (neg_f (meet_holds m0).1) (ps_cons ⟨⟨_, rfl⟩, _, rfl⟩ (ps_cons (neg_f (meet_holds m0).2) (ps_cons ⟨⟨_, rfl⟩, _, rfl⟩ (ps_cons ⟨⟨_, rfl⟩, _, rfl⟩ (ps_cons ⟨⟨_, rfl⟩, _, rfl⟩ (ps_cons ⟨⟨_, rfl⟩, _, rfl⟩ (ps_cons ⟨⟨_, rfl⟩, _, rfl⟩ (ps_cons ⟨⟨_, rfl⟩, _, rfl⟩ (ps_cons y0 (ps_cons v0 (ps_cons t0 (ps_cons ⟨⟨_, rfl⟩, _, rfl⟩ (ps_cons (sub_mono fa H.lo.1 H.hi.1 t0) (ps_cons trivial ps_nil)))))))))))))))))))))))))))))) ?_
  rfl
theorem IPfttt_run (a b c d : Iv) : runF P EL 1 4 [I a, I b, I c, I d] (.lit :: (.b false :: (.lit :: (.b false :: (.b false :: (.b false :: (.b false :: (.b false :: (.b false :: (.b true :: (.b false :: (.b false :: (.b true :: (.lit :: (.b true :: (.lit :: (.b true :: []))))))))))))))))) =
  some (.bool true,
    [fineP [ivs [a, b, c, d]],
     (!(fineL [a, b, c, d])) = false,
     fineP [ivs [a, b, c]],
     iP2 [I (hullI [a, b, c]), I a],
     (!(holdsI (hullI [a, b, c]) a)) = false,
     iP2 [I (hullI [a, b, c]), I b],
     (!(holdsI (hullI [a, b, c]) b)) = false,
     iP2 [I (hullI [a, b, c]), I c],
     (!(holdsI (hullI [a, b, c]) c)) = false,
     ((hullI [a, b, c]).lo != (if c.lo < (if b.lo < a.lo then b.lo else a.lo) then c.lo else (if b.lo < a.lo then b.lo else a.lo))) = false,
     ((hullI [a, b, c]).hi != (if c.hi > (if b.hi > a.hi then b.hi else a.hi) then c.hi else (if b.hi > a.hi then b.hi else a.hi))) = false,
     iP2 [I a, I b],
     (((meetI a b).bad) != (decide ((if b.lo > a.lo then b.lo else a.lo) > (if b.hi < a.hi then b.hi else a.hi)))) = false,
     (!((meetI a b).bad)) = true,
     iP2 [I a, I (meetI a b)],
     (!(holdsI a (meetI a b))) = false,
     iP2 [I b, I (meetI a b)],
     (!(holdsI b (meetI a b))) = false,
     iP2 [I a, I d],
     iP2 [I (hullI [a, b, c]), I d],
     iP2 [I a, I d],
     iP2 [I (hullI [a, b, c]), I d],
     iP2 [I d, I a],
     iP2 [I d, I (hullI [a, b, c])],
     ((mulI (hullI [a, b, c]) d).bad) = true,
     ((addI (hullI [a, b, c]) d).bad) = true,
     ((subI d (hullI [a, b, c])).bad) = true,
     wakesP []]) := by kernel_rfl
theorem IPfttt_leaf (a b c d : Iv) (hf : fineL [a, b, c, d] = true) (m0 : (meetI a b).bad = false) (y0 : (mulI (hullI [a, b, c]) d).bad = true) (v0 : (addI (hullI [a, b, c]) d).bad = true) (t0 : (subI d (hullI [a, b, c])).bad = true) : Gives P 4 #[I a, I b, I c, I d] (.bool true) := by
  have h4 : (fine a && (fine b && (fine c && (fine d && true)))) = true := hf
  simp only [Bool.and_eq_true] at h4
  obtain ⟨fa, fb, fc, fd, _⟩ := h4
  have H := hul fa fb fc
  have g1 : holdsI (hullI [a, b, c]) a = true := holds_mk H.ok fa H.lo.1 H.hi.1
  have g2 : holdsI (hullI [a, b, c]) b = true := holds_mk H.ok fb H.lo.2.1 H.hi.2.1
  have g3 : holdsI (hullI [a, b, c]) c = true := holds_mk H.ok fc H.lo.2.2 H.hi.2.2
  have R := IPfttt_run a b c d
  refine gives_of_run mo R (ps_cons (ivs_ok (by simp)) (ps_cons (neg_f hf) (ps_cons (ivs_ok (by simp)) (ps_cons ⟨⟨_, rfl⟩, _, rfl⟩ (ps_cons (neg_f g1) (ps_cons ⟨⟨_, rfl⟩, _, rfl⟩ (ps_cons (neg_f g2) (ps_cons ⟨⟨_, rfl⟩, _, rfl⟩ (ps_cons (neg_f g3) (ps_cons (by rw [H.eq]; exact bne_self_eq_false _) (ps_cons (by rw [H.eq]; exact bne_self_eq_false _) (ps_cons ⟨⟨_, rfl⟩, _, rfl⟩ (ps_cons (by rw [meet_bad fa fb]; exact bne_self_eq_false _) (ps_cons (neg_t m0) (ps_cons ⟨⟨_, rfl⟩, _, rfl⟩ (ps_cons (neg_f (meet_holds m0).1) (ps_cons ⟨⟨_, rfl⟩, _, rfl⟩ (ps_cons (neg_f (meet_holds m0).2) (ps_cons ⟨⟨_, rfl⟩, _, rfl⟩ (ps_cons ⟨⟨_, rfl⟩, _, rfl⟩ (ps_cons ⟨⟨_, rfl⟩, _, rfl⟩ (ps_cons ⟨⟨_, rfl⟩, _, rfl⟩ (ps_cons ⟨⟨_, rfl⟩, _, rfl⟩ (ps_cons ⟨⟨_, rfl⟩, _, rfl⟩ (ps_cons y0 (ps_cons v0 (ps_cons t0 (ps_cons trivial ps_nil)))))))))))))))))))))))))))) ?_
  rfl
theorem IPtfff_run (a b c d : Iv) : runF P EL 1 4 [I a, I b, I c, I d] (.lit :: (.b false :: (.lit :: (.b false :: (.b false :: (.b false :: (.b false :: (.b false :: (.b false :: (.b false :: (.lit :: (.lit :: (.b false :: (.b true :: (.b false :: (.b true :: (.b false :: (.b true :: [])))))))))))))))))) =
  some (.bool true,
    [fineP [ivs [a, b, c, d]],
     (!(fineL [a, b, c, d])) = false,
     fineP [ivs [a, b, c]],
     iP2 [I (hullI [a, b, c]), I a],
     (!(holdsI (hullI [a, b, c]) a)) = false,
     iP2 [I (hullI [a, b, c]), I b],
     (!(holdsI (hullI [a, b, c]) b)) = false,
     iP2 [I (hullI [a, b, c]), I c],
     (!(holdsI (hullI [a, b, c]) c)) = false,
     ((hullI [a, b, c]).lo != (if c.lo < (if b.lo < a.lo then b.lo else a.lo) then c.lo else (if b.lo < a.lo then b.lo else a.lo))) = false,
     ((hullI [a, b, c]).hi != (if c.hi > (if b.hi > a.hi then b.hi else a.hi) then c.hi else (if b.hi > a.hi then b.hi else a.hi))) = false,
     iP2 [I a, I b],
     (((meetI a b).bad) != (decide ((if b.lo > a.lo then b.lo else a.lo) > (if b.hi < a.hi then b.hi else a.hi)))) = false,
     (!((meetI a b).bad)) = false,
     iP2 [I a, I d],
     iP2 [I (hullI [a, b, c]), I d],
     iP2 [I a, I d],
     iP2 [I (hullI [a, b, c]), I d],
     iP2 [I d, I a],
     iP2 [I d, I (hullI [a, b, c])],
     ((mulI (hullI [a, b, c]) d).bad) = false,
     iP2 [I (mulI (hullI [a, b, c]) d), I (mulI a d)],
     (holdsI (mulI (hullI [a, b, c]) d) (mulI a d)) = true,
     ((addI (hullI [a, b, c]) d).bad) = false,
     iP2 [I (addI (hullI [a, b, c]) d), I (addI a d)],
     (holdsI (addI (hullI [a, b, c]) d) (addI a d)) = true,
     ((subI d (hullI [a, b, c])).bad) = false,
     iP2 [I (subI d (hullI [a, b, c])), I (subI d a)],
     (holdsI (subI d (hullI [a, b, c])) (subI d a)) = true,
     wakesP []]) := by kernel_rfl
theorem IPtfff_leaf (a b c d : Iv) (hf : fineL [a, b, c, d] = true) (m0 : (meetI a b).bad = true) (y0 : (mulI (hullI [a, b, c]) d).bad = false) (v0 : (addI (hullI [a, b, c]) d).bad = false) (t0 : (subI d (hullI [a, b, c])).bad = false) : Gives P 4 #[I a, I b, I c, I d] (.bool true) := by
  have h4 : (fine a && (fine b && (fine c && (fine d && true)))) = true := hf
  simp only [Bool.and_eq_true] at h4
  obtain ⟨fa, fb, fc, fd, _⟩ := h4
  have H := hul fa fb fc
  have g1 : holdsI (hullI [a, b, c]) a = true := holds_mk H.ok fa H.lo.1 H.hi.1
  have g2 : holdsI (hullI [a, b, c]) b = true := holds_mk H.ok fb H.lo.2.1 H.hi.2.1
  have g3 : holdsI (hullI [a, b, c]) c = true := holds_mk H.ok fc H.lo.2.2 H.hi.2.2
  have R := IPtfff_run a b c d
  refine gives_of_run mo R (ps_cons (ivs_ok (by simp)) (ps_cons (neg_f hf) (ps_cons (ivs_ok (by simp)) (ps_cons ⟨⟨_, rfl⟩, _, rfl⟩ (ps_cons (neg_f g1) (ps_cons ⟨⟨_, rfl⟩, _, rfl⟩ (ps_cons (neg_f g2) (ps_cons ⟨⟨_, rfl⟩, _, rfl⟩ (ps_cons (neg_f g3) (ps_cons (by rw [H.eq]; exact bne_self_eq_false _) (ps_cons (by rw [H.eq]; exact bne_self_eq_false _) (ps_cons ⟨⟨_, rfl⟩, _, rfl⟩ (ps_cons (by rw [meet_bad fa fb]; exact bne_self_eq_false _) (ps_cons (neg_f m0) (ps_cons ⟨⟨_, rfl⟩, _, rfl⟩ (ps_cons ⟨⟨_, rfl⟩, _, rfl⟩ (ps_cons ⟨⟨_, rfl⟩, _, rfl⟩ (ps_cons ⟨⟨_, rfl⟩, _, rfl⟩ (ps_cons ⟨⟨_, rfl⟩, _, rfl⟩ (ps_cons ⟨⟨_, rfl⟩, _, rfl⟩ (ps_cons y0 (ps_cons ⟨⟨_, rfl⟩, _, rfl⟩ (ps_cons (mul_mono fa H.lo.1 H.hi.1 y0) (ps_cons v0 (ps_cons ⟨⟨_, rfl⟩, _, rfl⟩ (ps_cons (add_mono fa H.lo.1 H.hi.1 v0) (ps_cons t0 (ps_cons ⟨⟨_, rfl⟩, _, rfl⟩ (ps_cons (sub_mono fa H.lo.1 H.hi.1 t0) (ps_cons trivial ps_nil)))))))))))))))))))))))))))))) ?_
  rfl
theorem IPtfft_run (a b c d : Iv) : runF P EL 1 4 [I a, I b, I c, I d] (.lit :: (.b false :: (.lit :: (.b false :: (.b false :: (.b false :: (.b false :: (.b false :: (.b false :: (.b false :: (.lit :: (.lit :: (.b false :: (.b true :: (.b false :: (.b true :: (.b true :: []))))))))))))))))) =
  some (.bool true,
    [fineP [ivs [a, b, c, d]],
     (!(fineL [a, b, c, d])) = false,
     fineP [ivs [a, b, c]],
     iP2 [I (hullI [a, b, c]), I a],
     (!(holdsI (hullI [a, b, c]) a)) = false,
     iP2 [I (hullI [a, b, c]), I b],
     (!(holdsI (hullI [a, b, c]) b)) = false,
     iP2 [I (hullI [a, b, c]), I c],
     (!(holdsI (hullI [a, b, c]) c)) = false,
     ((hullI [a, b, c]).lo != (if c.lo < (if b.lo < a.lo then b.lo else a.lo) then c.lo else (if b.lo < a.lo then b.lo else a.lo))) = false,
     ((hullI [a, b, c]).hi != (if c.hi > (if b.hi > a.hi then b.hi else a.hi) then c.hi else (if b.hi > a.hi then b.hi else a.hi))) = false,
     iP2 [I a, I b],
     (((meetI a b).bad) != (decide ((if b.lo > a.lo then b.lo else a.lo) > (if b.hi < a.hi then b.hi else a.hi)))) = false,
     (!((meetI a b).bad)) = false,
     iP2 [I a, I d],
     iP2 [I (hullI [a, b, c]), I d],
     iP2 [I a, I d],
     iP2 [I (hullI [a, b, c]), I d],
     iP2 [I d, I a],
     iP2 [I d, I (hullI [a, b, c])],
     ((mulI (hullI [a, b, c]) d).bad) = false,
     iP2 [I (mulI (hullI [a, b, c]) d), I (mulI a d)],
     (holdsI (mulI (hullI [a, b, c]) d) (mulI a d)) = true,
     ((addI (hullI [a, b, c]) d).bad) = false,
     iP2 [I (addI (hullI [a, b, c]) d), I (addI a d)],
     (holdsI (addI (hullI [a, b, c]) d) (addI a d)) = true,
     ((subI d (hullI [a, b, c])).bad) = true,
     wakesP []]) := by kernel_rfl
theorem IPtfft_leaf (a b c d : Iv) (hf : fineL [a, b, c, d] = true) (m0 : (meetI a b).bad = true) (y0 : (mulI (hullI [a, b, c]) d).bad = false) (v0 : (addI (hullI [a, b, c]) d).bad = false) (t0 : (subI d (hullI [a, b, c])).bad = true) : Gives P 4 #[I a, I b, I c, I d] (.bool true) := by
  have h4 : (fine a && (fine b && (fine c && (fine d && true)))) = true := hf
  simp only [Bool.and_eq_true] at h4
  obtain ⟨fa, fb, fc, fd, _⟩ := h4
  have H := hul fa fb fc
  have g1 : holdsI (hullI [a, b, c]) a = true := holds_mk H.ok fa H.lo.1 H.hi.1
  have g2 : holdsI (hullI [a, b, c]) b = true := holds_mk H.ok fb H.lo.2.1 H.hi.2.1
  have g3 : holdsI (hullI [a, b, c]) c = true := holds_mk H.ok fc H.lo.2.2 H.hi.2.2
  have R := IPtfft_run a b c d
  refine gives_of_run mo R (ps_cons (ivs_ok (by simp)) (ps_cons (neg_f hf) (ps_cons (ivs_ok (by simp)) (ps_cons ⟨⟨_, rfl⟩, _, rfl⟩ (ps_cons (neg_f g1) (ps_cons ⟨⟨_, rfl⟩, _, rfl⟩ (ps_cons (neg_f g2) (ps_cons ⟨⟨_, rfl⟩, _, rfl⟩ (ps_cons (neg_f g3) (ps_cons (by rw [H.eq]; exact bne_self_eq_false _) (ps_cons (by rw [H.eq]; exact bne_self_eq_false _) (ps_cons ⟨⟨_, rfl⟩, _, rfl⟩ (ps_cons (by rw [meet_bad fa fb]; exact bne_self_eq_false _) (ps_cons (neg_f m0) (ps_cons ⟨⟨_, rfl⟩, _, rfl⟩ (ps_cons ⟨⟨_, rfl⟩, _, rfl⟩ (ps_cons ⟨⟨_, rfl⟩, _, rfl⟩ (ps_cons ⟨⟨_, rfl⟩, _, rfl⟩ (ps_cons ⟨⟨_, rfl⟩, _, rfl⟩ (ps_cons ⟨⟨_, rfl⟩, _, rfl⟩ (ps_cons y0 (ps_cons ⟨⟨_, rfl⟩, _, rfl⟩ (ps_cons (mul_mono fa H.lo.1 H.hi.1 y0) (ps_cons v0 (ps_cons ⟨⟨_, rfl⟩, _, rfl⟩ (ps_cons (add_mono fa H.lo.1 H.hi.1 v0) (ps_cons t0 (ps_cons trivial ps_nil)))))))))))))))))))))))))))) ?_
  rfl
theorem IPtftf_run (a b c d : Iv) : runF P EL 1 4 [I a, I b, I c, I d] (.lit :: (.b false :: (.lit :: (.b false :: (.b false :: (.b false :: (.b false :: (.b false :: (.b false :: (.b false :: (.lit :: (.lit :: (.b false :: (.b true :: (.b true :: (.lit :: (.b false :: (.b true :: [])))))))))))))))))) =
  some (.bool true,
    [fineP [ivs [a, b, c, d]],
     (!(fineL [a, b, c, d])) = false,
     fineP [ivs [a, b, c]],
     iP2 [I (hullI [a, b, c]), I a],
     (!(holdsI (hullI [a, b, c]) a)) = false,
     iP2 [I (hullI [a, b, c]), I b],
     (!(holdsI (hullI [a, b, c]) b)) = false,
     iP2 [I (hullI [a, b, c]), I c],
     (!(holdsI (hullI [a, b, c]) c)) = false,
     ((hullI [a, b, c]).lo != (if c.lo < (if b.lo < a.lo then b.lo else a.lo) then c.lo else (if b.lo < a.lo then b.lo else a.lo))) = false,
     ((hullI [a, b, c]).hi != (if c.hi > (if b.hi > a.hi then b.hi else a.hi) then c.hi else (if b.hi > a.hi then b.hi else a.hi))) = false,
     iP2 [I a, I b],
     (((meetI a b).bad) != (decide ((if b.lo > a.lo then b.lo else a.lo) > (if b.hi < a.hi then b.hi else a.hi)))) = false,
     (!((meetI a b).bad)) = false,
     iP2 [I a, I d],
     iP2 [I (hullI [a, b, c]), I d],
     iP2 [I a, I d],
     iP2 [I (hullI [a, b, c]), I d],
     iP2 [I d, I a],
     iP2 [I d, I (hullI [a, b, c])],
     ((mulI (hullI [a, b, c]) d).bad) = false,
     iP2 [I (mulI (hullI [a, b, c]) d), I (mulI a d)],
     (holdsI (mulI (hullI [a, b, c]) d) (mulI a d)) = true,
     ((addI (hullI [a, b, c]) d).bad) = true,
     ((subI d (hullI [a, b, c])).bad) = false,
     iP2 [I (subI d (hullI [a, b, c])), I (subI d a)],
     (holdsI (subI d (hullI [a, b, c])) (subI d a)) = true,
     wakesP []]) := by kernel_rfl
theorem IPtftf_leaf (a b c d : Iv) (hf : fineL [a, b, c, d] = true) (m0 : (meetI a b).bad = true) (y0 : (mulI (hullI [a, b, c]) d).bad = false) (v0 : (addI (hullI [a, b, c]) d).bad = true) (t0 : (subI d (hullI [a, b, c])).bad = false) : Gives P 4 #[I a, I b, I c, I d] (.bool true) := by
  have h4 : (fine a && (fine b && (fine c && (fine d && true)))) = true := hf
  simp only [Bool.and_eq_true] at h4
  obtain ⟨fa, fb, fc, fd, _⟩ := h4
  have H := hul fa fb fc
  have g1 : holdsI (hullI [a, b, c]) a = true := holds_mk H.ok fa H.lo.1 H.hi.1
  have g2 : holdsI (hullI [a, b, c]) b = true := holds_mk H.ok fb H.lo.2.1 H.hi.2.1
  have g3 : holdsI (hullI [a, b, c]) c = true := holds_mk H.ok fc H.lo.2.2 H.hi.2.2
  have R := IPtftf_run a b c d
  refine gives_of_run mo R (ps_cons (ivs_ok (by simp)) (ps_cons (neg_f hf) (ps_cons (ivs_ok (by simp)) (ps_cons ⟨⟨_, rfl⟩, _, rfl⟩ (ps_cons (neg_f g1) (ps_cons ⟨⟨_, rfl⟩, _, rfl⟩ (ps_cons (neg_f g2) (ps_cons ⟨⟨_, rfl⟩, _, rfl⟩ (ps_cons (neg_f g3) (ps_cons (by rw [H.eq]; exact bne_self_eq_false _) (ps_cons (by rw [H.eq]; exact bne_self_eq_false _) (ps_cons ⟨⟨_, rfl⟩, _, rfl⟩ (ps_cons (by rw [meet_bad fa fb]; exact bne_self_eq_false _) (ps_cons (neg_f m0) (ps_cons ⟨⟨_, rfl⟩, _, rfl⟩ (ps_cons ⟨⟨_, rfl⟩, _, rfl⟩ (ps_cons ⟨⟨_, rfl⟩, _, rfl⟩ (ps_cons ⟨⟨_, rfl⟩, _, rfl⟩ (ps_cons ⟨⟨_, rfl⟩, _, rfl⟩ (ps_cons ⟨⟨_, rfl⟩, _, rfl⟩ (ps_cons y0 (ps_cons ⟨⟨_, rfl⟩, _, rfl⟩ (ps_cons (mul_mono fa H.lo.1 H.hi.1 y0) (ps_cons v0 (ps_cons t0 (ps_cons ⟨⟨_, rfl⟩, _, rfl⟩ (ps_cons (sub_mono fa H.lo.1 H.hi.1 t0) (ps_cons trivial ps_nil)))))))))))))))))))))))))))) ?_
  rfl
theorem IPtftt_run (a b c d : Iv) : runF P EL 1 4 [I a, I b, I c, I d] (.lit :: (.b false :: (.lit :: (.b false :: (.b false :: (.b false :: (.b false :: (.b false :: (.b false :: (.b false :: (.lit :: (.lit :: (.b false :: (.b true :: (.b true :: (.lit :: (.b true :: []))))))))))))))))) =
  some (.bool true,
    [fineP [ivs [a, b, c, d]],
     (!(fineL [a, b, c, d])) = false,
     fineP [ivs [a, b, c]],
     iP2 [I (hullI [a, b, c]), I a],
     (!(holdsI (hullI [a, b, c]) a)) = false,
     iP2 [I (hullI [a, b, c]), I b],
     (!(holdsI (hullI [a, b, c]) b)) = false,
     iP2 [I (hullI [a, b, c]), I c],
     (!(holdsI (hullI [a, b, c]) c)) = false,
     ((hullI [a, b, c]).lo != (if c.lo < (if b.lo < a.lo then b.lo else a.lo) then c.lo else (if b.lo < a.lo then b.lo else a.lo))) = false,
     ((hullI [a, b, c]).hi != (if c.hi > (if b.hi > a.hi then b.hi else a.hi) then c.hi else (if b.hi > a.hi then b.hi else a.hi))) = false,
     iP2 [I a, I b],
     (((meetI a b).bad) != (decide ((if b.lo > a.lo then b.lo else a.lo) > (if b.hi < a.hi then b.hi else a.hi)))) = false,
     (!((meetI a b).bad)) = false,
     iP2 [I a, I d],
     iP2 [I (hullI [a, b, c]), I d],
     iP2 [I a, I d],
     iP2 [I (hullI [a, b, c]), I d],
     iP2 [I d, I a],
     iP2 [I d, I (hullI [a, b, c])],
     ((mulI (hullI [a, b, c]) d).bad) = false,
     iP2 [I (mulI (hullI [a, b, c]) d), I (mulI a d)],
     (holdsI (mulI (hullI [a, b, c]) d) (mulI a d)) = true,
     ((addI (hullI [a, b, c]) d).bad) = true,
     ((subI d (hullI [a, b, c])).bad) = true,
     wakesP []]) := by kernel_rfl
theorem IPtftt_leaf (a b c d : Iv) (hf : fineL [a, b, c, d] = true) (m0 : (meetI a b).bad = true) (y0 : (mulI (hullI [a, b, c]) d).bad = false) (v0 : (addI (hullI [a, b, c]) d).bad = true) (t0 : (subI d (hullI [a, b, c])).bad = true) : Gives P 4 #[I a, I b, I c, I d] (.bool true) := by
  have h4 : (fine a && (fine b && (fine c && (fine d && true)))) = true := hf
  simp only [Bool.and_eq_true] at h4
  obtain ⟨fa, fb, fc, fd, _⟩ := h4
  have H := hul fa fb fc
  have g1 : holdsI (hullI [a, b, c]) a = true := holds_mk H.ok fa H.lo.1 H.hi.1
  have g2 : holdsI (hullI [a, b, c]) b = true := holds_mk H.ok fb H.lo.2.1 H.hi.2.1
  have g3 : holdsI (hullI [a, b, c]) c = true := holds_mk H.ok fc H.lo.2.2 H.hi.2.2
  have R := IPtftt_run a b c d
  refine gives_of_run mo R (ps_cons (ivs_ok (by simp)) (ps_cons (neg_f hf) (ps_cons (ivs_ok (by simp)) (ps_cons ⟨⟨_, rfl⟩, _, rfl⟩ (ps_cons (neg_f g1) (ps_cons ⟨⟨_, rfl⟩, _, rfl⟩ (ps_cons (neg_f g2) (ps_cons ⟨⟨_, rfl⟩, _, rfl⟩ (ps_cons (neg_f g3) (ps_cons (by rw [H.eq]; exact bne_self_eq_false _) (ps_cons (by rw [H.eq]; exact bne_self_eq_false _) (ps_cons ⟨⟨_, rfl⟩, _, rfl⟩ (ps_cons (by rw [meet_bad fa fb]; exact bne_self_eq_false _) (ps_cons (neg_f m0) (ps_cons ⟨⟨_, rfl⟩, _, rfl⟩ (ps_cons ⟨⟨_, rfl⟩, _, rfl⟩ (ps_cons ⟨⟨_, rfl⟩, _, rfl⟩ (ps_cons ⟨⟨_, rfl⟩, _, rfl⟩ (ps_cons ⟨⟨_, rfl⟩, _, rfl⟩ (ps_cons ⟨⟨_, rfl⟩, _, rfl⟩ (ps_cons y0 (ps_cons ⟨⟨_, rfl⟩, _, rfl⟩ (ps_cons (mul_mono fa H.lo.1 H.hi.1 y0) (ps_cons v0 (ps_cons t0 (ps_cons trivial ps_nil)))))))))))))))))))))))))) ?_
  rfl
theorem IPttff_run (a b c d : Iv) : runF P EL 1 4 [I a, I b, I c, I d] (.lit :: (.b false :: (.lit :: (.b false :: (.b false :: (.b false :: (.b false :: (.b false :: (.b false :: (.b false :: (.lit :: (.lit :: (.b true :: (.lit :: (.b false :: (.b true :: (.b false :: (.b true :: [])))))))))))))))))) =
  some (.bool true,
    [fineP [ivs [a, b, c, d]],
     (!(fineL [a, b, c, d])) = false,
     fineP [ivs [a, b, c]],
     iP2 [I (hullI [a, b, c]), I a],
     (!(holdsI (hullI [a, b, c]) a)) = false,
     iP2 [I (hullI [a, b, c]), I b],
     (!(holdsI (hullI [a, b, c]) b)) = false,
     iP2 [I (hullI [a, b, c]), I c],
     (!(holdsI (hullI [a, b, c]) c)) = false,
     ((hullI [a, b, c]).lo != (if c.lo < (if b.lo < a.lo then b.lo else a.lo) then c.lo else (if b.lo < a.lo then b.lo else a.lo))) = false,
     ((hullI [a, b, c]).hi != (if c.hi > (if b.hi > a.hi then b.hi else a.hi) then c.hi else (if b.hi > a.hi then b.hi else a.hi))) = false,
     iP2 [I a, I b],
     (((meetI a b).bad) != (decide ((if b.lo > a.lo then b.lo else a.lo) > (if b.hi < a.hi then b.hi else a.hi)))) = false,
     (!((meetI a b).bad)) = false,
     iP2 [I a, I d],
     iP2 [I (hullI [a, b, c]), I d],
     iP2 [I a, I d],
     iP2 [I (hullI [a, b, c]), I d],
     iP2 [I d, I a],
     iP2 [I d, I (hullI [a, b, c])],
     ((mulI (hullI [a, b, c]) d).bad) = true,
     ((addI (hullI [a, b, c]) d).bad) = false,
     iP2 [I (addI (hullI [a, b, c]) d), I (addI a d)],
     (holdsI (addI (hullI [a, b, c]) d) (addI a d)) = true,
     ((subI d (hullI [a, b, c])).bad) = false,
     iP2 [I (subI d (hullI [a, b, c])), I (subI d a)],
     (holdsI (subI d (hullI [a, b, c])) (subI d a)) = true,
     wakesP []]) := by kernel_rfl
theorem IPttff_leaf (a b c d : Iv) (hf : fineL [a, b, c, d] = true) (m0 : (meetI a b).bad = true) (y0 : (mulI (hullI [a, b, c]) d).bad = true) (v0 : (addI (hullI [a, b, c]) d).bad = false) (t0 : (subI d (hullI [a, b, c])).bad = false) : Gives P 4 #[I a, I b, I c, I d] (.bool true) := by
  have h4 : (fine a && (fine b && (fine c && (fine d && true)))) = true := hf
  simp only [Bool.and_eq_true] at h4
  obtain ⟨fa, fb, fc, fd, _⟩ := h4
  have H := hul fa fb fc
  have g1 : holdsI (hullI [a, b, c]) a = true := holds_mk H.ok fa H.lo.1 H.hi.1
  have g2 : holdsI (hullI [a, b, c]) b = true := holds_mk H.ok fb H.lo.2.1 H.hi.2.1
  have g3 : holdsI (hullI [a, b, c]) c = true := holds_mk H.ok fc H.lo.2.2 H.hi.2.2
  have R := IPttff_run a b c d
  refine gives_of_run mo R (ps_cons (ivs_ok (by simp)) (ps_cons (neg_f hf) (ps_cons (ivs_ok (by simp)) (ps_cons ⟨⟨_, rfl⟩, _, rfl⟩ (ps_cons (neg_f g1) (ps_cons ⟨⟨_, rfl⟩, _, rfl⟩ (ps_cons (neg_f g2) (ps_cons ⟨⟨_, rfl⟩, _, rfl⟩ (ps_cons (neg_f g3) (ps_cons (by rw [H.eq]; exact bne_self_eq_false _) (ps_cons (by rw [H.eq]; exact bne_self_eq_false _) (ps_cons ⟨⟨_, rfl⟩, _, rfl⟩ (ps_cons (by rw [meet_bad fa fb]; exact bne_self_eq_false _) (ps_cons (neg_f m0) (ps_cons ⟨⟨_, rfl⟩, _, rfl⟩ (ps_cons ⟨⟨_, rfl⟩, _, rfl⟩ (ps_cons ⟨⟨_, rfl⟩, _, rfl⟩ (ps_cons ⟨⟨_, rfl⟩, _, rfl⟩ (ps_cons ⟨⟨_, rfl⟩, _, rfl⟩ (ps_cons ⟨⟨_, rfl⟩, _, rfl⟩ (ps_cons y0 (ps_cons v0 (ps_cons ⟨⟨_, rfl⟩, _, rfl⟩ (ps_cons (add_mono fa H.lo.1 H.hi.1 v0) (ps_cons t0 (ps_cons ⟨⟨_, rfl⟩, _, rfl⟩ (ps_cons (sub_mono fa H.lo.1 H.hi.1 t0) (ps_cons trivial ps_nil)))))))))))))))))))))))))))) ?_
  rfl
theorem IPttft_run (a b c d : Iv) : runF P EL 1 4 [I a, I b, I c, I d] (.lit :: (.b false :: (.lit :: (.b false :: (.b false :: (.b false :: (.b false :: (.b false :: (.b false :: (.b false :: (.lit :: (.lit :: (.b true :: (.lit :: (.b false :: (.b true :: (.b true :: []))))))))))))))))) =
  some (.bool true,
    [fineP [ivs [a, b, c, d]],
     (!(fineL [a, b, c, d])) = false,
     fineP [ivs [a, b, c]],
     iP2 [I (hullI [a, b, c]), I a],
     (!(holdsI (hullI [a, b, c]) a)) = false,
     iP2 [I (hullI [a, b, c]), I b],
     (!(holdsI (hullI [a, b, c]) b)) = false,
     iP2 [I (hullI [a, b, c]), I c],
     (!(holdsI (hullI [a, b, c]) c)) = false,
     ((hullI [a, b, c]).lo != (if c.lo < (if b.lo < a.lo then b.lo else a.lo) then c.lo else (if b.lo < a.lo then b.lo else a.lo))) = false,
     ((hullI [a, b, c]).hi != (if c.hi > (if b.hi > a.hi then b.hi else a.hi) then c.hi else (if b.hi > a.hi then b.hi else a.hi))) = false,
     iP2 [I a, I b],
     (((meetI a b).bad) != (decide ((if b.lo > a.lo then b.lo else a.lo) > (if b.hi < a.hi then b.hi else a.hi)))) = false,
     (!((meetI a b).bad)) = false,
     iP2 [I a, I d],
     iP2 [I (hullI [a, b, c]), I d],
     iP2 [I a, I d],
     iP2 [I (hullI [a, b, c]), I d],
     iP2 [I d, I a],
     iP2 [I d, I (hullI [a, b, c])],
     ((mulI (hullI [a, b, c]) d).bad) = true,
     ((addI (hullI [a, b, c]) d).bad) = false,
     iP2 [I (addI (hullI [a, b, c]) d), I (addI a d)],
     (holdsI (addI (hullI [a, b, c]) d) (addI a d)) = true,
     ((subI d (hullI [a, b, c])).bad) = true,
     wakesP []]) := by kernel_rfl
theorem IPttft_leaf (a b c d : Iv) (hf : fineL [a, b, c, d] = true) (m0 : (meetI a b).bad = true) (y0 : (mulI (hullI [a, b, c]) d).bad = true) (v0 : (addI (hullI [a, b, c]) d).bad = false) (t0 : (subI d (hullI [a, b, c])).bad = true) : Gives P 4 #[I a, I b, I c, I d] (.bool true) := by
  have h4 : (fine a && (fine b && (fine c && (fine d && true)))) = true := hf
  simp only [Bool.and_eq_true] at h4
  obtain ⟨fa, fb, fc, fd, _⟩ := h4
  have H := hul fa fb fc
  have g1 : holdsI (hullI [a, b, c]) a = true := holds_mk H.ok fa H.lo.1 H.hi.1
  have g2 : holdsI (hullI [a, b, c]) b = true := holds_mk H.ok fb H.lo.2.1 H.hi.2.1
  have g3 : holdsI (hullI [a, b, c]) c = true := holds_mk H.ok fc H.lo.2.2 H.hi.2.2
  have R := IPttft_run a b c d
  refine gives_of_run mo R (ps_cons (ivs_ok (by simp)) (ps_cons (neg_f hf) (ps_cons (ivs_ok (by simp)) (ps_cons ⟨⟨_, rfl⟩, _, rfl⟩ (ps_cons (neg_f g1) (ps_cons ⟨⟨_, rfl⟩, _, rfl⟩ (ps_cons (neg_f g2) (ps_cons ⟨⟨_, rfl⟩, _, rfl⟩ (ps_cons (neg_f g3) (ps_cons (by rw [H.eq]; exact bne_self_eq_false _) (ps_cons (by rw [H.eq]; exact bne_self_eq_false _) (ps_cons ⟨⟨_, rfl⟩, _, rfl⟩ (ps_cons (by rw [meet_bad fa fb]; exact bne_self_eq_false _) (ps_cons (neg_f m0) (ps_cons ⟨⟨_, rfl⟩, _, rfl⟩ (ps_cons ⟨⟨_, rfl⟩, _, rfl⟩ (ps_cons ⟨⟨_, rfl⟩, _, rfl⟩ (ps_cons ⟨⟨_, rfl⟩, _, rfl⟩ (ps_cons ⟨⟨_, rfl⟩, _, rfl⟩ (ps_cons ⟨⟨_, rfl⟩, _, rfl⟩ (ps_cons y0 (ps_cons v0 (ps_cons ⟨⟨_, rfl⟩, _, rfl⟩ (ps_cons (add_mono fa H.lo.1 H.hi.1 v0) (ps_cons t0 (ps_cons trivial ps_nil)))))))))))))))))))))))))) ?_
  rfl
theorem IPtttf_run (a b c d : Iv) : runF P EL 1 4 [I a, I b, I c, I d] (.lit :: (.b false :: (.lit :: (.b false :: (.b false :: (.b false :: (.b false :: (.b false :: (.b false :: (.b false :: (.lit :: (.lit :: (.b true :: (.lit :: (.b true :: (.lit :: (.b false :: (.b true :: [])))))))))))))))))) =
  some (.bool true,
    [fineP [ivs [a, b, c, d]],
     (!(fineL [a, b, c, d])) = false,
     fineP [ivs [a, b, c]],
     iP2 [I (hullI [a, b, c]), I a],
     (!(holdsI (hullI [a, b, c]) a)) = false,
     iP2 [I (hullI [a, b, c]), I b],
     (!(holdsI (hullI [a, b, c]) b)) = false,
     iP2 [I (hullI [a, b, c]), I c],
     (!(holdsI (hullI [a, b, c]) c)) = false,
     ((hullI [a, b, c]).lo != (if c.lo < (if b.lo < a.lo then b.lo else a.lo) then c.lo else (if b.lo < a.lo then b.lo else a.lo))) = false,
     ((hullI [a, b, c]).hi != (if c.hi > (if b.hi > a.hi then b.hi else a.hi) then c.hi else (if b.hi > a.hi then b.hi else a.hi))) = false,
     iP2 [I a, I b],
     (((meetI a b).bad) != (decide ((if b.lo > a.lo then b.lo else a.lo) > (if b.hi < a.hi then b.hi else a.hi)))) = false,
     (!((meetI a b).bad)) = false,
     iP2 [I a, I d],
     iP2 [I (hullI [a, b, c]), I d],
     iP2 [I a, I d],
     iP2 [I (hullI [a, b, c]), I d],
     iP2 [I d, I a],
     iP2 [I d, I (hullI [a, b, c])],
     ((mulI (hullI [a, b, c]) d).bad) = true,
     ((addI (hullI [a, b, c]) d).bad) = true,
     ((subI d (hullI [a, b, c])).bad) = false,
     iP2 [I (subI d (hullI [a, b, c])), I (subI d a)],
     (holdsI (subI d (hullI [a, b, c])) (subI d a)) = true,
     wakesP []]) := by kernel_rfl
theorem IPtttf_leaf (a b c d : Iv) (hf : fineL [a, b, c, d] = true) (m0 : (meetI a b).bad = true) (y0 : (mulI (hullI [a, b, c]) d).bad = true) (v0 : (addI (hullI [a, b, c]) d).bad = true) (t0 : (subI d (hullI [a, b, c])).bad = false) : Gives P 4 #[I a, I b, I c, I d] (.bool true) := by
  have h4 : (fine a && (fine b && (fine c && (fine d && true)))) = true := hf
  simp only [Bool.and_eq_true] at h4
  obtain ⟨fa, fb, fc, fd, _⟩ := h4
  have H := hul fa fb fc
  have g1 : holdsI (hullI [a, b, c]) a = true := holds_mk H.ok fa H.lo.1 H.hi.1
  have g2 : holdsI (hullI [a, b, c]) b = true := holds_mk H.ok fb H.lo.2.1 H.hi.2.1
  have g3 : holdsI (hullI [a, b, c]) c = true := holds_mk H.ok fc H.lo.2.2 H.hi.2.2
  have R := IPtttf_run a b c d
  refine gives_of_run mo R (ps_cons (ivs_ok (by simp)) (ps_cons (neg_f hf) (ps_cons (ivs_ok (by simp)) (ps_cons ⟨⟨_, rfl⟩, _, rfl⟩ (ps_cons (neg_f g1) (ps_cons ⟨⟨_, rfl⟩, _, rfl⟩ (ps_cons (neg_f g2) (ps_cons ⟨⟨_, rfl⟩, _, rfl⟩ (ps_cons (neg_f g3) (ps_cons (by rw [H.eq]; exact bne_self_eq_false _) (ps_cons (by rw [H.eq]; exact bne_self_eq_false _) (ps_cons ⟨⟨_, rfl⟩, _, rfl⟩ (ps_cons (by rw [meet_bad fa fb]; exact bne_self_eq_false _) (ps_cons (neg_f m0) (ps_cons ⟨⟨_, rfl⟩, _, rfl⟩ (ps_cons ⟨⟨_, rfl⟩, _, rfl⟩ (ps_cons ⟨⟨_, rfl⟩, _, rfl⟩ (ps_cons ⟨⟨_, rfl⟩, _, rfl⟩ (ps_cons ⟨⟨_, rfl⟩, _, rfl⟩ (ps_cons ⟨⟨_, rfl⟩, _, rfl⟩ (ps_cons y0 (ps_cons v0 (ps_cons t0 (ps_cons ⟨⟨_, rfl⟩, _, rfl⟩ (ps_cons (sub_mono fa H.lo.1 H.hi.1 t0) (ps_cons trivial ps_nil)))))))))))))))))))))))))) ?_
  rfl
theorem IPtttt_run (a b c d : Iv) : runF P EL 1 4 [I a, I b, I c, I d] (.lit :: (.b false :: (.lit :: (.b false :: (.b false :: (.b false :: (.b false :: (.b false :: (.b false :: (.b false :: (.lit :: (.lit :: (.b true :: (.lit :: (.b true :: (.lit :: (.b true :: []))))))))))))))))) =
  some (.bool true,
    [fineP [ivs [a, b, c, d]],
     (!(fineL [a, b, c, d])) = false,
     fineP [ivs [a, b, c]],
     iP2 [I (hullI [a, b, c]), I a],
     (!(holdsI (hullI [a, b, c]) a)) = false,
     iP2 [I (hullI [a, b, c]), I b],
     (!(holdsI (hullI [a, b, c]) b)) = false,
     iP2 [I (hullI [a, b, c]), I c],
     (!(holdsI (hullI [a, b, c]) c)) = false,
     ((hullI [a, b, c]).lo != (if c.lo < (if b.lo < a.lo then b.lo else a.lo) then c.lo else (if b.lo < a.lo then b.lo else a.lo))) = false,
     ((hullI [a, b, c]).hi != (if c.hi > (if b.hi > a.hi then b.hi else a.hi) then c.hi else (if b.hi > a.hi then b.hi else a.hi))) = false,
     iP2 [I a, I b],
     (((meetI a b).bad) != (decide ((if b.lo > a.lo then b.lo else a.lo) > (if b.hi < a.hi then b.hi else a.hi)))) = false,
     (!((meetI a b).bad)) = false,
     iP2 [I a, I d],
     iP2 [I (hullI [a, b, c]), I d],
     iP2 [I a, I d],
     iP2 [I (hullI [a, b, c]), I d],
     iP2 [I d, I a],
     iP2 [I d, I (hullI [a, b, c])],
     ((mulI (hullI [a, b, c]) d).bad) = true,
     ((addI (hullI [a, b, c]) d).bad) = true,
     ((subI d (hullI [a, b, c])).bad) = true,
     wakesP []]) := by kernel_rfl
theorem IPtttt_leaf (a b c d : Iv) (hf : fineL [a, b, c, d] = true) (m0 : (meetI a b).bad = true) (y0 : (mulI (hullI [a, b, c]) d).bad = true) (v0 : (addI (hullI [a, b, c]) d).bad = true) (t0 : (subI d (hullI [a, b, c])).bad = true) : Gives P 4 #[I a, I b, I c, I d] (.bool true) := by
  have h4 : (fine a && (fine b && (fine c && (fine d && true)))) = true := hf
  simp only [Bool.and_eq_true] at h4
  obtain ⟨fa, fb, fc, fd, _⟩ := h4
  have H := hul fa fb fc
  have g1 : holdsI (hullI [a, b, c]) a = true := holds_mk H.ok fa H.lo.1 H.hi.1
  have g2 : holdsI (hullI [a, b, c]) b = true := holds_mk H.ok fb H.lo.2.1 H.hi.2.1
  have g3 : holdsI (hullI [a, b, c]) c = true := holds_mk H.ok fc H.lo.2.2 H.hi.2.2
  have R := IPtttt_run a b c d
  refine gives_of_run mo R (ps_cons (ivs_ok (by simp)) (ps_cons (neg_f hf) (ps_cons (ivs_ok (by simp)) (ps_cons ⟨⟨_, rfl⟩, _, rfl⟩ (ps_cons (neg_f g1) (ps_cons ⟨⟨_, rfl⟩, _, rfl⟩ (ps_cons (neg_f g2) (ps_cons ⟨⟨_, rfl⟩, _, rfl⟩ (ps_cons (neg_f g3) (ps_cons (by rw [H.eq]; exact bne_self_eq_false _) (ps_cons (by rw [H.eq]; exact bne_self_eq_false _) (ps_cons ⟨⟨_, rfl⟩, _, rfl⟩ (ps_cons (by rw [meet_bad fa fb]; exact bne_self_eq_false _) (ps_cons (neg_f m0) (ps_cons ⟨⟨_, rfl⟩, _, rfl⟩ (ps_cons ⟨⟨_, rfl⟩, _, rfl⟩ (ps_cons ⟨⟨_, rfl⟩, _, rfl⟩ (ps_cons ⟨⟨_, rfl⟩, _, rfl⟩ (ps_cons ⟨⟨_, rfl⟩, _, rfl⟩ (ps_cons ⟨⟨_, rfl⟩, _, rfl⟩ (ps_cons y0 (ps_cons v0 (ps_cons t0 (ps_cons trivial ps_nil)))))))))))))))))))))))) ?_
  rfl
theorem IvalParts_all (a b c d : Iv) : Gives P 4 #[I a, I b, I c, I d] (.bool true) := by
  cases hf : fineL [a, b, c, d] with
  | false => exact IP0_leaf a b c d hf
  | true =>
    cases m0 : (meetI a b).bad <;> cases y0 : (mulI (hullI [a, b, c]) d).bad <;> cases v0 : (addI (hullI [a, b, c]) d).bad <;> cases t0 : (subI d (hullI [a, b, c])).bad
    · exact IPffff_leaf a b c d hf m0 y0 v0 t0
    · exact IPffft_leaf a b c d hf m0 y0 v0 t0
    · exact IPfftf_leaf a b c d hf m0 y0 v0 t0
    · exact IPfftt_leaf a b c d hf m0 y0 v0 t0
    · exact IPftff_leaf a b c d hf m0 y0 v0 t0
    · exact IPftft_leaf a b c d hf m0 y0 v0 t0
    · exact IPfttf_leaf a b c d hf m0 y0 v0 t0
    · exact IPfttt_leaf a b c d hf m0 y0 v0 t0
    · exact IPtfff_leaf a b c d hf m0 y0 v0 t0
    · exact IPtfft_leaf a b c d hf m0 y0 v0 t0
    · exact IPtftf_leaf a b c d hf m0 y0 v0 t0
    · exact IPtftt_leaf a b c d hf m0 y0 v0 t0
    · exact IPttff_leaf a b c d hf m0 y0 v0 t0
    · exact IPttft_leaf a b c d hf m0 y0 v0 t0
    · exact IPtttf_leaf a b c d hf m0 y0 v0 t0
    · exact IPtttt_leaf a b c d hf m0 y0 v0 t0

theorem held_ok {p : Iv} {x n d : Int} (hx : I64 x) (hn : I64 n) (hd : I64 d) (h0 : d ≠ 0) (fp : fine p = true) (h1 : p.lo ≤ fq (x * n) d) (h2 : cq (x * n) d ≤ p.hi) : heldB p x n d = true := by
  have rp := fine_iff.1 fp
  have := fq_le_cq (x * n) d
  obtain ⟨b1, b2⟩ := by_ok hx hn hd (byOk_iff.2 ⟨h0, by omega, by omega⟩)
  have ha := smmul hx hn
  have hb := sm64 hd
  unfold heldB
  rw [b1, b2, qe_ok ha hb h0, qv_ok fq ha hb h0, qv_ok cq ha hb h0, decide_eq_true h1, decide_eq_true h2]
  have i1 : i64B (fq (x * n) d) = true := by unfold i64B; simp only [Bool.and_eq_true, decide_eq_true_eq]; omega
  have i2 : i64B (cq (x * n) d) = true := by unfold i64B; simp only [Bool.and_eq_true, decide_eq_true_eq]; omega
  rw [i1, i2]
  rfl
theorem mul_held {a b : Iv} {x y : Int} (x1 : a.lo ≤ x) (x2 : x ≤ a.hi) (y1 : b.lo ≤ y) (y2 : y ≤ b.hi) (h : (mulI a b).bad = false) : heldB (mulI a b) x y 1073741824 = true := by
  obtain ⟨fa, fb, _, hm⟩ := mul_good h
  have ra := fine_iff.1 fa
  have rb := fine_iff.1 fb
  refine held_ok (by unfold I64; omega) (by unfold I64; omega) (by unfold I64; omega) (by decide) hm.ok ?_ ?_
  · exact (le_fq (by decide)).2 (cor_ge x1 x2 y1 y2 ((hm.lo _).1 (Int.le_refl _)))
  · exact (cq_le (by decide)).2 (cor_le x1 x2 y1 y2 ((hm.hi _).1 (Int.le_refl _)))
theorem part_held {a : Iv} {x n d : Int} (hn : I64 n) (hd : I64 d) (x1 : a.lo ≤ x) (x2 : x ≤ a.hi) (h : (partI a n d).bad = false) : d ≠ 0 ∧ heldB (partI a n d) x n d = true := by
  have h' := h
  unfold partI at h
  cases hc : (fineL [a] && (byOk a.lo n d && byOk a.hi n d)) with
  | false => rw [hc] at h; cases h
  | true =>
    rw [hc] at h
    obtain ⟨f1, e1⟩ := told_good h
    have e : partI a n d = partR a n d := by unfold partI; rw [hc]; exact e1
    simp only [Bool.and_eq_true] at hc
    obtain ⟨fa, q1, q2⟩ := hc
    rw [fine1] at fa
    obtain ⟨a1, a2⟩ := fine64 fa
    obtain ⟨c1, d1⟩ := by_ok a1 hn hd q1
    obtain ⟨c2, d2⟩ := by_ok a2 hn hd q2
    have h0 := (byOk_iff.1 q1).1
    refine ⟨h0, ?_⟩
    rw [e]
    have l := (mn_ge (k := (partR a n d).lo)).1 (Int.le_refl _)
    have u := (mx_le (k := (partR a n d).hi)).1 (Int.le_refl _)
    have ra := fine_iff.1 fa
    have l1 := (mn_ge.1 l.1).1
    have u1 := (mx_le.1 u.1).1
    rw [c1] at l1
    rw [d1] at u1
    have l2 := l.2
    have u2 := u.2
    rw [c2] at l2
    rw [d2] at u2
    exact held_ok (by unfold I64; omega) hn hd h0 f1 (fq_between h0 x1 x2 l1 l2) (cq_between h0 x1 x2 u1 u2)
theorem IH0_run (a b : Iv) (x y n d : Int) : runF P EL 1 3 [I a, I b, .int .i64 x, .int .i64 y, .int .i64 n, .int .i64 d] (.lit :: (.b true :: [])) =
  some (.bool true,
    [fineP [ivs [a, b]],
     (!(fineL [a, b])) = true,
     wakesP []]) := by kernel_rfl
theorem IH0_leaf (a b : Iv) (x y n d : Int) (hf : fineL [a, b] = false) : Gives P 3 #[I a, I b, .int .i64 x, .int .i64 y, .int .i64 n, .int .i64 d] (.bool true) := by
  have R := IH0_run a b x y n d
  refine gives_of_run mo R (ps_cons (ivs_ok (by simp)) (ps_cons (neg_t hf) (ps_cons trivial ps_nil))) ?_
  rfl
theorem IHfffn_run (a b : Iv) (x y n d : Int) : runF P EL 1 3 [I a, I b, .int .i64 x, .int .i64 y, .int .i64 n, .int .i64 d] (.lit :: (.b false :: (.b true :: (.b false :: (.b false :: (.b true :: (.b false :: (.b false :: (.b false :: (.b true :: (.b false :: (.b false :: (.b true :: (.b true :: [])))))))))))))) =
  some (.bool true,
    [fineP [ivs [a, b]],
     (!(fineL [a, b])) = false,
     inP [I a, .int .i64 x],
     inP [I b, .int .i64 y],
     iP2 [I a, I b],
     iP2 [I a, I b],
     iP2 [I a, I b],
     partP [I a, .int .i64 n, .int .i64 d],
     (!((addI a b).bad)) = true,
     (decide (IntKind.i64.wrap (inV a x + (inV b y)) < (addI a b).lo)) = false,
     (decide (IntKind.i64.wrap (inV a x + (inV b y)) > (addI a b).hi)) = false,
     (!((subI a b).bad)) = true,
     (decide (IntKind.i64.wrap (inV a x - (inV b y)) < (subI a b).lo)) = false,
     (decide (IntKind.i64.wrap (inV a x - (inV b y)) > (subI a b).hi)) = false,
     iP1 [I a],
     (!(((negI a).lo == IntKind.i64.wrap (0 - a.hi)) && (((negI a).hi == IntKind.i64.wrap (0 - a.lo)) && (((negI a).bad) == false)))) = false,
     (!((mulI a b).bad)) = true,
     heldP [I (mulI a b), .int .i64 (inV a x), .int .i64 (inV b y), .int .i64 1073741824],
     (!(heldB (mulI a b) (inV a x) (inV b y) 1073741824)) = false,
     ((partI a n d).bad) = false,
     heldP [I (partI a n d), .int .i64 (inV a x), .int .i64 n, .int .i64 d],
     (heldB (partI a n d) (inV a x) n d) = true,
     (d != 0) = true,
     wakesP []]) := by kernel_rfl
theorem IHfffn_leaf (a b : Iv) (x y n d : Int) (hx : I64 x) (hy : I64 y) (hn : I64 n) (hd : I64 d) (hf : fineL [a, b] = true) (s0 : (addI a b).bad = false) (t0 : (subI a b).bad = false) (m0 : (mulI a b).bad = false) (p0 : (partI a n d).bad = false) : Gives P 3 #[I a, I b, .int .i64 x, .int .i64 y, .int .i64 n, .int .i64 d] (.bool true) := by
  obtain ⟨fa, fb⟩ := fine2.1 hf
  obtain ⟨x1, x2⟩ := in_in x fa
  obtain ⟨y1, y2⟩ := in_in y fb
  have ra := fine_iff.1 fa
  have rb := fine_iff.1 fb
  have wx : I64 (inV a x) := by unfold I64; omega
  have wy : I64 (inV b y) := by unfold I64; omega
  have ws : IntKind.i64.wrap (inV a x + inV b y) = inV a x + inV b y := wr (by omega) (by omega)
  have wt : IntKind.i64.wrap (inV a x - inV b y) = inV a x - inV b y := wr (by omega) (by omega)
  have wn1 : IntKind.i64.wrap (0 - a.hi) = -a.hi := by rw [Int.zero_sub]; exact wr (by omega) (by omega)
  have wn2 : IntKind.i64.wrap (0 - a.lo) = -a.lo := by rw [Int.zero_sub]; exact wr (by omega) (by omega)
  have en := (neg_ok fa).1
  have R := IHfffn_run a b x y n d
  refine gives_of_run mo R (ps_cons (ivs_ok (by simp)) (ps_cons (neg_f hf) (ps_cons ⟨⟨_, rfl, fa⟩, hx⟩ (ps_cons ⟨⟨_, rfl, fb⟩, hy⟩ (ps_cons ⟨⟨_, rfl⟩, _, rfl⟩ (ps_cons ⟨⟨_, rfl⟩, _, rfl⟩ (ps_cons ⟨⟨_, rfl⟩, _, rfl⟩ (ps_cons ⟨⟨_, rfl⟩, hn, hd⟩ (ps_cons (neg_t s0) (ps_cons (by rw [ws, (add_good s0).2.2.2]; exact decide_eq_false (by show ¬ (inV a x + inV b y < a.lo + b.lo); omega)) (ps_cons (by rw [ws, (add_good s0).2.2.2]; exact decide_eq_false (by show ¬ (inV a x + inV b y > a.hi + b.hi); omega)) (ps_cons (neg_t t0) (ps_cons (by rw [wt, (sub_good t0).2.2.2]; exact decide_eq_false (by show ¬ (inV a x - inV b y < a.lo - b.hi); omega)) (ps_cons (by rw [wt, (sub_good t0).2.2.2]; exact decide_eq_false (by show ¬ (inV a x - inV b y > a.hi - b.lo); omega)) (ps_cons ⟨_, rfl⟩ (ps_cons (by rw [wn1, wn2, en]; simp) (ps_cons (neg_t m0) (ps_cons ⟨⟨_, rfl⟩, wx, wy, i64one⟩ (ps_cons (neg_f (mul_held x1 x2 y1 y2 m0)) (ps_cons p0 (ps_cons ⟨⟨_, rfl⟩, wx, hn, hd⟩ (ps_cons (part_held hn hd x1 x2 p0).2 (ps_cons (by simpa using (part_held hn hd x1 x2 p0).1) (ps_cons trivial ps_nil)))))))))))))))))))))))) ?_
  rfl
theorem IHfffz_run (a b : Iv) (x y n d : Int) : runF P EL 1 3 [I a, I b, .int .i64 x, .int .i64 y, .int .i64 n, .int .i64 d] (.lit :: (.b false :: (.b true :: (.b false :: (.b false :: (.b true :: (.b false :: (.b false :: (.b false :: (.b true :: (.b false :: (.b true :: (.lit :: (.b false :: (.b true :: []))))))))))))))) =
  some (.bool true,
    [fineP [ivs [a, b]],
     (!(fineL [a, b])) = false,
     inP [I a, .int .i64 x],
     inP [I b, .int .i64 y],
     iP2 [I a, I b],
     iP2 [I a, I b],
     iP2 [I a, I b],
     partP [I a, .int .i64 n, .int .i64 d],
     (!((addI a b).bad)) = true,
     (decide (IntKind.i64.wrap (inV a x + (inV b y)) < (addI a b).lo)) = false,
     (decide (IntKind.i64.wrap (inV a x + (inV b y)) > (addI a b).hi)) = false,
     (!((subI a b).bad)) = true,
     (decide (IntKind.i64.wrap (inV a x - (inV b y)) < (subI a b).lo)) = false,
     (decide (IntKind.i64.wrap (inV a x - (inV b y)) > (subI a b).hi)) = false,
     iP1 [I a],
     (!(((negI a).lo == IntKind.i64.wrap (0 - a.hi)) && (((negI a).hi == IntKind.i64.wrap (0 - a.lo)) && (((negI a).bad) == false)))) = false,
     (!((mulI a b).bad)) = true,
     heldP [I (mulI a b), .int .i64 (inV a x), .int .i64 (inV b y), .int .i64 1073741824],
     (!(heldB (mulI a b) (inV a x) (inV b y) 1073741824)) = false,
     ((partI a n d).bad) = true,
     (d != 0) = false,
     ((partI a n d).bad) = true,
     wakesP []]) := by kernel_rfl
theorem IHfffz_leaf (a b : Iv) (x y n d : Int) (hx : I64 x) (hy : I64 y) (hn : I64 n) (hd : I64 d) (hf : fineL [a, b] = true) (s0 : (addI a b).bad = false) (t0 : (subI a b).bad = false) (m0 : (mulI a b).bad = false) (p0 : (partI a n d).bad = true) (z0 : d = 0) : Gives P 3 #[I a, I b, .int .i64 x, .int .i64 y, .int .i64 n, .int .i64 d] (.bool true) := by
  obtain ⟨fa, fb⟩ := fine2.1 hf
  obtain ⟨x1, x2⟩ := in_in x fa
  obtain ⟨y1, y2⟩ := in_in y fb
  have ra := fine_iff.1 fa
  have rb := fine_iff.1 fb
  have wx : I64 (inV a x) := by unfold I64; omega
  have wy : I64 (inV b y) := by unfold I64; omega
  have ws : IntKind.i64.wrap (inV a x + inV b y) = inV a x + inV b y := wr (by omega) (by omega)
  have wt : IntKind.i64.wrap (inV a x - inV b y) = inV a x - inV b y := wr (by omega) (by omega)
  have wn1 : IntKind.i64.wrap (0 - a.hi) = -a.hi := by rw [Int.zero_sub]; exact wr (by omega) (by omega)
  have wn2 : IntKind.i64.wrap (0 - a.lo) = -a.lo := by rw [Int.zero_sub]; exact wr (by omega) (by omega)
  have en := (neg_ok fa).1
  have R := IHfffz_run a b x y n d
  refine gives_of_run mo R (ps_cons (ivs_ok (by simp)) (ps_cons (neg_f hf) (ps_cons ⟨⟨_, rfl, fa⟩, hx⟩ (ps_cons ⟨⟨_, rfl, fb⟩, hy⟩ (ps_cons ⟨⟨_, rfl⟩, _, rfl⟩ (ps_cons ⟨⟨_, rfl⟩, _, rfl⟩ (ps_cons ⟨⟨_, rfl⟩, _, rfl⟩ (ps_cons ⟨⟨_, rfl⟩, hn, hd⟩ (ps_cons (neg_t s0) (ps_cons (by rw [ws, (add_good s0).2.2.2]; exact decide_eq_false (by show ¬ (inV a x + inV b y < a.lo + b.lo); omega)) (ps_cons (by rw [ws, (add_good s0).2.2.2]; exact decide_eq_false (by show ¬ (inV a x + inV b y > a.hi + b.hi); omega)) (ps_cons (neg_t t0) (ps_cons (by rw [wt, (sub_good t0).2.2.2]; exact decide_eq_false (by show ¬ (inV a x - inV b y < a.lo - b.hi); omega)) (ps_cons (by rw [wt, (sub_good t0).2.2.2]; exact decide_eq_false (by show ¬ (inV a x - inV b y > a.hi - b.lo); omega)) (ps_cons ⟨_, rfl⟩ (ps_cons (by rw [wn1, wn2, en]; simp) (ps_cons (neg_t m0) (ps_cons ⟨⟨_, rfl⟩, wx, wy, i64one⟩ (ps_cons (neg_f (mul_held x1 x2 y1 y2 m0)) (ps_cons p0 (ps_cons (by simpa using z0) (ps_cons p0 (ps_cons trivial ps_nil))))))))))))))))))))))) ?_
  rfl
theorem IHfffd_run (a b : Iv) (x y n d : Int) : runF P EL 1 3 [I a, I b, .int .i64 x, .int .i64 y, .int .i64 n, .int .i64 d] (.lit :: (.b false :: (.b true :: (.b false :: (.b false :: (.b true :: (.b false :: (.b false :: (.b false :: (.b true :: (.b false :: (.b true :: (.lit :: (.b true :: [])))))))))))))) =
  some (.bool true,
    [fineP [ivs [a, b]],
     (!(fineL [a, b])) = false,
     inP [I a, .int .i64 x],
     inP [I b, .int .i64 y],
     iP2 [I a, I b],
     iP2 [I a, I b],
     iP2 [I a, I b],
     partP [I a, .int .i64 n, .int .i64 d],
     (!((addI a b).bad)) = true,
     (decide (IntKind.i64.wrap (inV a x + (inV b y)) < (addI a b).lo)) = false,
     (decide (IntKind.i64.wrap (inV a x + (inV b y)) > (addI a b).hi)) = false,
     (!((subI a b).bad)) = true,
     (decide (IntKind.i64.wrap (inV a x - (inV b y)) < (subI a b).lo)) = false,
     (decide (IntKind.i64.wrap (inV a x - (inV b y)) > (subI a b).hi)) = false,
     iP1 [I a],
     (!(((negI a).lo == IntKind.i64.wrap (0 - a.hi)) && (((negI a).hi == IntKind.i64.wrap (0 - a.lo)) && (((negI a).bad) == false)))) = false,
     (!((mulI a b).bad)) = true,
     heldP [I (mulI a b), .int .i64 (inV a x), .int .i64 (inV b y), .int .i64 1073741824],
     (!(heldB (mulI a b) (inV a x) (inV b y) 1073741824)) = false,
     ((partI a n d).bad) = true,
     (d != 0) = true,
     wakesP []]) := by kernel_rfl
theorem IHfffd_leaf (a b : Iv) (x y n d : Int) (hx : I64 x) (hy : I64 y) (hn : I64 n) (hd : I64 d) (hf : fineL [a, b] = true) (s0 : (addI a b).bad = false) (t0 : (subI a b).bad = false) (m0 : (mulI a b).bad = false) (p0 : (partI a n d).bad = true) (z0 : d ≠ 0) : Gives P 3 #[I a, I b, .int .i64 x, .int .i64 y, .int .i64 n, .int .i64 d] (.bool true) := by
  obtain ⟨fa, fb⟩ := fine2.1 hf
  obtain ⟨x1, x2⟩ := in_in x fa
  obtain ⟨y1, y2⟩ := in_in y fb
  have ra := fine_iff.1 fa
  have rb := fine_iff.1 fb
  have wx : I64 (inV a x) := by unfold I64; omega
  have wy : I64 (inV b y) := by unfold I64; omega
  have ws : IntKind.i64.wrap (inV a x + inV b y) = inV a x + inV b y := wr (by omega) (by omega)
  have wt : IntKind.i64.wrap (inV a x - inV b y) = inV a x - inV b y := wr (by omega) (by omega)
  have wn1 : IntKind.i64.wrap (0 - a.hi) = -a.hi := by rw [Int.zero_sub]; exact wr (by omega) (by omega)
  have wn2 : IntKind.i64.wrap (0 - a.lo) = -a.lo := by rw [Int.zero_sub]; exact wr (by omega) (by omega)
  have en := (neg_ok fa).1
  have R := IHfffd_run a b x y n d
  refine gives_of_run mo R (ps_cons (ivs_ok (by simp)) (ps_cons (neg_f hf) (ps_cons ⟨⟨_, rfl, fa⟩, hx⟩ (ps_cons ⟨⟨_, rfl, fb⟩, hy⟩ (ps_cons ⟨⟨_, rfl⟩, _, rfl⟩ (ps_cons ⟨⟨_, rfl⟩, _, rfl⟩ (ps_cons ⟨⟨_, rfl⟩, _, rfl⟩ (ps_cons ⟨⟨_, rfl⟩, hn, hd⟩ (ps_cons (neg_t s0) (ps_cons (by rw [ws, (add_good s0).2.2.2]; exact decide_eq_false (by show ¬ (inV a x + inV b y < a.lo + b.lo); omega)) (ps_cons (by rw [ws, (add_good s0).2.2.2]; exact decide_eq_false (by show ¬ (inV a x + inV b y > a.hi + b.hi); omega)) (ps_cons (neg_t t0) (ps_cons (by rw [wt, (sub_good t0).2.2.2]; exact decide_eq_false (by show ¬ (inV a x - inV b y < a.lo - b.hi); omega)) (ps_cons (by rw [wt, (sub_good t0).2.2.2]; exact decide_eq_false (by show ¬ (inV a x - inV b y > a.hi - b.lo); omega)) (ps_cons ⟨_, rfl⟩ (ps_cons (by rw [wn1, wn2, en]; simp) (ps_cons (neg_t m0) (ps_cons ⟨⟨_, rfl⟩, wx, wy, i64one⟩ (ps_cons (neg_f (mul_held x1 x2 y1 y2 m0)) (ps_cons p0 (ps_cons (by simpa using z0) (ps_cons trivial ps_nil)))))))))))))))))))))) ?_
  rfl
theorem IHfftn_run (a b : Iv) (x y n d : Int) : runF P EL 1 3 [I a, I b, .int .i64 x, .int .i64 y, .int .i64 n, .int .i64 d] (.lit :: (.b false :: (.b true :: (.b false :: (.b false :: (.b true :: (.b false :: (.b false :: (.b false :: (.b false :: (.lit :: (.b false :: (.b true :: (.b true :: [])))))))))))))) =
  some (.bool true,
    [fineP [ivs [a, b]],
     (!(fineL [a, b])) = false,
     inP [I a, .int .i64 x],
     inP [I b, .int .i64 y],
     iP2 [I a, I b],
     iP2 [I a, I b],
     iP2 [I a, I b],
     partP [I a, .int .i64 n, .int .i64 d],
     (!((addI a b).bad)) = true,
     (decide (IntKind.i64.wrap (inV a x + (inV b y)) < (addI a b).lo)) = false,
     (decide (IntKind.i64.wrap (inV a x + (inV b y)) > (addI a b).hi)) = false,
     (!((subI a b).bad)) = true,
     (decide (IntKind.i64.wrap (inV a x - (inV b y)) < (subI a b).lo)) = false,
     (decide (IntKind.i64.wrap (inV a x - (inV b y)) > (subI a b).hi)) = false,
     iP1 [I a],
     (!(((negI a).lo == IntKind.i64.wrap (0 - a.hi)) && (((negI a).hi == IntKind.i64.wrap (0 - a.lo)) && (((negI a).bad) == false)))) = false,
     (!((mulI a b).bad)) = false,
     ((partI a n d).bad) = false,
     heldP [I (partI a n d), .int .i64 (inV a x), .int .i64 n, .int .i64 d],
     (heldB (partI a n d) (inV a x) n d) = true,
     (d != 0) = true,
     wakesP []]) := by kernel_rfl
theorem IHfftn_leaf (a b : Iv) (x y n d : Int) (hx : I64 x) (hy : I64 y) (hn : I64 n) (hd : I64 d) (hf : fineL [a, b] = true) (s0 : (addI a b).bad = false) (t0 : (subI a b).bad = false) (m0 : (mulI a b).bad = true) (p0 : (partI a n d).bad = false) : Gives P 3 #[I a, I b, .int .i64 x, .int .i64 y, .int .i64 n, .int .i64 d] (.bool true) := by
  obtain ⟨fa, fb⟩ := fine2.1 hf
  obtain ⟨x1, x2⟩ := in_in x fa
  obtain ⟨y1, y2⟩ := in_in y fb
  have ra := fine_iff.1 fa
  have rb := fine_iff.1 fb
  have wx : I64 (inV a x) := by unfold I64; omega
  have wy : I64 (inV b y) := by unfold I64; omega
  have ws : IntKind.i64.wrap (inV a x + inV b y) = inV a x + inV b y := wr (by omega) (by omega)
  have wt : IntKind.i64.wrap (inV a x - inV b y) = inV a x - inV b y := wr (by omega) (by omega)
  have wn1 : IntKind.i64.wrap (0 - a.hi) = -a.hi := by rw [Int.zero_sub]; exact wr (by omega) (by omega)
  have wn2 : IntKind.i64.wrap (0 - a.lo) = -a.lo := by rw [Int.zero_sub]; exact wr (by omega) (by omega)
  have en := (neg_ok fa).1
  have R := IHfftn_run a b x y n d
  refine gives_of_run mo R (ps_cons (ivs_ok (by simp)) (ps_cons (neg_f hf) (ps_cons ⟨⟨_, rfl, fa⟩, hx⟩ (ps_cons ⟨⟨_, rfl, fb⟩, hy⟩ (ps_cons ⟨⟨_, rfl⟩, _, rfl⟩ (ps_cons ⟨⟨_, rfl⟩, _, rfl⟩ (ps_cons ⟨⟨_, rfl⟩, _, rfl⟩ (ps_cons ⟨⟨_, rfl⟩, hn, hd⟩ (ps_cons (neg_t s0) (ps_cons (by rw [ws, (add_good s0).2.2.2]; exact decide_eq_false (by show ¬ (inV a x + inV b y < a.lo + b.lo); omega)) (ps_cons (by rw [ws, (add_good s0).2.2.2]; exact decide_eq_false (by show ¬ (inV a x + inV b y > a.hi + b.hi); omega)) (ps_cons (neg_t t0) (ps_cons (by rw [wt, (sub_good t0).2.2.2]; exact decide_eq_false (by show ¬ (inV a x - inV b y < a.lo - b.hi); omega)) (ps_cons (by rw [wt, (sub_good t0).2.2.2]; exact decide_eq_false (by show ¬ (inV a x - inV b y > a.hi - b.lo); omega)) (ps_cons ⟨_, rfl⟩ (ps_cons (by rw [wn1, wn2, en]; simp) (ps_cons (neg_f m0) (ps_cons p0 (ps_cons ⟨⟨_, rfl⟩, wx, hn, hd⟩ (ps_cons (part_held hn hd x1 x2 p0).2 (ps_cons (by simpa using (part_held hn hd x1 x2 p0).1) (ps_cons trivial ps_nil)))))))))))))))))))))) ?_
  rfl
theorem IHfftz_run (a b : Iv) (x y n d : Int) : runF P EL 1 3 [I a, I b, .int .i64 x, .int .i64 y, .int .i64 n, .int .i64 d] (.lit :: (.b false :: (.b true :: (.b false :: (.b false :: (.b true :: (.b false :: (.b false :: (.b false :: (.b false :: (.lit :: (.b true :: (.lit :: (.b false :: (.b true :: []))))))))))))))) =
  some (.bool true,
    [fineP [ivs [a, b]],
     (!(fineL [a, b])) = false,
     inP [I a, .int .i64 x],
     inP [I b, .int .i64 y],
     iP2 [I a, I b],
     iP2 [I a, I b],
     iP2 [I a, I b],
     partP [I a, .int .i64 n, .int .i64 d],
     (!((addI a b).bad)) = true,
     (decide (IntKind.i64.wrap (inV a x + (inV b y)) < (addI a b).lo)) = false,
     (decide (IntKind.i64.wrap (inV a x + (inV b y)) > (addI a b).hi)) = false,
     (!((subI a b).bad)) = true,
     (decide (IntKind.i64.wrap (inV a x - (inV b y)) < (subI a b).lo)) = false,
     (decide (IntKind.i64.wrap (inV a x - (inV b y)) > (subI a b).hi)) = false,
     iP1 [I a],
     (!(((negI a).lo == IntKind.i64.wrap (0 - a.hi)) && (((negI a).hi == IntKind.i64.wrap (0 - a.lo)) && (((negI a).bad) == false)))) = false,
     (!((mulI a b).bad)) = false,
     ((partI a n d).bad) = true,
     (d != 0) = false,
     ((partI a n d).bad) = true,
     wakesP []]) := by kernel_rfl
theorem IHfftz_leaf (a b : Iv) (x y n d : Int) (hx : I64 x) (hy : I64 y) (hn : I64 n) (hd : I64 d) (hf : fineL [a, b] = true) (s0 : (addI a b).bad = false) (t0 : (subI a b).bad = false) (m0 : (mulI a b).bad = true) (p0 : (partI a n d).bad = true) (z0 : d = 0) : Gives P 3 #[I a, I b, .int .i64 x, .int .i64 y, .int .i64 n, .int .i64 d] (.bool true) := by
  obtain ⟨fa, fb⟩ := fine2.1 hf
  obtain ⟨x1, x2⟩ := in_in x fa
  obtain ⟨y1, y2⟩ := in_in y fb
  have ra := fine_iff.1 fa
  have rb := fine_iff.1 fb
  have wx : I64 (inV a x) := by unfold I64; omega
  have wy : I64 (inV b y) := by unfold I64; omega
  have ws : IntKind.i64.wrap (inV a x + inV b y) = inV a x + inV b y := wr (by omega) (by omega)
  have wt : IntKind.i64.wrap (inV a x - inV b y) = inV a x - inV b y := wr (by omega) (by omega)
  have wn1 : IntKind.i64.wrap (0 - a.hi) = -a.hi := by rw [Int.zero_sub]; exact wr (by omega) (by omega)
  have wn2 : IntKind.i64.wrap (0 - a.lo) = -a.lo := by rw [Int.zero_sub]; exact wr (by omega) (by omega)
  have en := (neg_ok fa).1
  have R := IHfftz_run a b x y n d
  refine gives_of_run mo R (ps_cons (ivs_ok (by simp)) (ps_cons (neg_f hf) (ps_cons ⟨⟨_, rfl, fa⟩, hx⟩ (ps_cons ⟨⟨_, rfl, fb⟩, hy⟩ (ps_cons ⟨⟨_, rfl⟩, _, rfl⟩ (ps_cons ⟨⟨_, rfl⟩, _, rfl⟩ (ps_cons ⟨⟨_, rfl⟩, _, rfl⟩ (ps_cons ⟨⟨_, rfl⟩, hn, hd⟩ (ps_cons (neg_t s0) (ps_cons (by rw [ws, (add_good s0).2.2.2]; exact decide_eq_false (by show ¬ (inV a x + inV b y < a.lo + b.lo); omega)) (ps_cons (by rw [ws, (add_good s0).2.2.2]; exact decide_eq_false (by show ¬ (inV a x + inV b y > a.hi + b.hi); omega)) (ps_cons (neg_t t0) (ps_cons (by rw [wt, (sub_good t0).2.2.2]; exact decide_eq_false (by show ¬ (inV a x - inV b y < a.lo - b.hi); omega)) (ps_cons (by rw [wt, (sub_good t0).2.2.2]; exact decide_eq_false (by show ¬ (inV a x - inV b y > a.hi - b.lo); omega)) (ps_cons ⟨_, rfl⟩ (ps_cons (by rw [wn1, wn2, en]; simp) (ps_cons (neg_f m0) (ps_cons p0 (ps_cons (by simpa using z0) (ps_cons p0 (ps_cons trivial ps_nil))))))))))))))))))))) ?_
  rfl
theorem IHfftd_run (a b : Iv) (x y n d : Int) : runF P EL 1 3 [I a, I b, .int .i64 x, .int .i64 y, .int .i64 n, .int .i64 d] (.lit :: (.b false :: (.b true :: (.b false :: (.b false :: (.b true :: (.b false :: (.b false :: (.b false :: (.b false :: (.lit :: (.b true :: (.lit :: (.b true :: [])))))))))))))) =
  some (.bool true,
    [fineP [ivs [a, b]],
     (!(fineL [a, b])) = false,
     inP [I a, .int .i64 x],
     inP [I b, .int .i64 y],
     iP2 [I a, I b],
     iP2 [I a, I b],
     iP2 [I a, I b],
     partP [I a, .int .i64 n, .int .i64 d],
     (!((addI a b).bad)) = true,
     (decide (IntKind.i64.wrap (inV a x + (inV b y)) < (addI a b).lo)) = false,
     (decide (IntKind.i64.wrap (inV a x + (inV b y)) > (addI a b).hi)) = false,
     (!((subI a b).bad)) = true,
     (decide (IntKind.i64.wrap (inV a x - (inV b y)) < (subI a b).lo)) = false,
     (decide (IntKind.i64.wrap (inV a x - (inV b y)) > (subI a b).hi)) = false,
     iP1 [I a],
     (!(((negI a).lo == IntKind.i64.wrap (0 - a.hi)) && (((negI a).hi == IntKind.i64.wrap (0 - a.lo)) && (((negI a).bad) == false)))) = false,
     (!((mulI a b).bad)) = false,
     ((partI a n d).bad) = true,
     (d != 0) = true,
     wakesP []]) := by kernel_rfl
theorem IHfftd_leaf (a b : Iv) (x y n d : Int) (hx : I64 x) (hy : I64 y) (hn : I64 n) (hd : I64 d) (hf : fineL [a, b] = true) (s0 : (addI a b).bad = false) (t0 : (subI a b).bad = false) (m0 : (mulI a b).bad = true) (p0 : (partI a n d).bad = true) (z0 : d ≠ 0) : Gives P 3 #[I a, I b, .int .i64 x, .int .i64 y, .int .i64 n, .int .i64 d] (.bool true) := by
  obtain ⟨fa, fb⟩ := fine2.1 hf
  obtain ⟨x1, x2⟩ := in_in x fa
  obtain ⟨y1, y2⟩ := in_in y fb
  have ra := fine_iff.1 fa
  have rb := fine_iff.1 fb
  have wx : I64 (inV a x) := by unfold I64; omega
  have wy : I64 (inV b y) := by unfold I64; omega
  have ws : IntKind.i64.wrap (inV a x + inV b y) = inV a x + inV b y := wr (by omega) (by omega)
  have wt : IntKind.i64.wrap (inV a x - inV b y) = inV a x - inV b y := wr (by omega) (by omega)
  have wn1 : IntKind.i64.wrap (0 - a.hi) = -a.hi := by rw [Int.zero_sub]; exact wr (by omega) (by omega)
  have wn2 : IntKind.i64.wrap (0 - a.lo) = -a.lo := by rw [Int.zero_sub]; exact wr (by omega) (by omega)
  have en := (neg_ok fa).1
  have R := IHfftd_run a b x y n d
  refine gives_of_run mo R (ps_cons (ivs_ok (by simp)) (ps_cons (neg_f hf) (ps_cons ⟨⟨_, rfl, fa⟩, hx⟩ (ps_cons ⟨⟨_, rfl, fb⟩, hy⟩ (ps_cons ⟨⟨_, rfl⟩, _, rfl⟩ (ps_cons ⟨⟨_, rfl⟩, _, rfl⟩ (ps_cons ⟨⟨_, rfl⟩, _, rfl⟩ (ps_cons ⟨⟨_, rfl⟩, hn, hd⟩ (ps_cons (neg_t s0) (ps_cons (by rw [ws, (add_good s0).2.2.2]; exact decide_eq_false (by show ¬ (inV a x + inV b y < a.lo + b.lo); omega)) (ps_cons (by rw [ws, (add_good s0).2.2.2]; exact decide_eq_false (by show ¬ (inV a x + inV b y > a.hi + b.hi); omega)) (ps_cons (neg_t t0) (ps_cons (by rw [wt, (sub_good t0).2.2.2]; exact decide_eq_false (by show ¬ (inV a x - inV b y < a.lo - b.hi); omega)) (ps_cons (by rw [wt, (sub_good t0).2.2.2]; exact decide_eq_false (by show ¬ (inV a x - inV b y > a.hi - b.lo); omega)) (ps_cons ⟨_, rfl⟩ (ps_cons (by rw [wn1, wn2, en]; simp) (ps_cons (neg_f m0) (ps_cons p0 (ps_cons (by simpa using z0) (ps_cons trivial ps_nil)))))))))))))))))))) ?_
  rfl
theorem IHftfn_run (a b : Iv) (x y n d : Int) : runF P EL 1 3 [I a, I b, .int .i64 x, .int .i64 y, .int .i64 n, .int .i64 d] (.lit :: (.b false :: (.b true :: (.b false :: (.b false :: (.b false :: (.lit :: (.lit :: (.b false :: (.b true :: (.b false :: (.b false :: (.b true :: (.b true :: [])))))))))))))) =
  some (.bool true,
    [fineP [ivs [a, b]],
     (!(fineL [a, b])) = false,
     inP [I a, .int .i64 x],
     inP [I b, .int .i64 y],
     iP2 [I a, I b],
     iP2 [I a, I b],
     iP2 [I a, I b],
     partP [I a, .int .i64 n, .int .i64 d],
     (!((addI a b).bad)) = true,
     (decide (IntKind.i64.wrap (inV a x + (inV b y)) < (addI a b).lo)) = false,
     (decide (IntKind.i64.wrap (inV a x + (inV b y)) > (addI a b).hi)) = false,
     (!((subI a b).bad)) = false,
     iP1 [I a],
     (!(((negI a).lo == IntKind.i64.wrap (0 - a.hi)) && (((negI a).hi == IntKind.i64.wrap (0 - a.lo)) && (((negI a).bad) == false)))) = false,
     (!((mulI a b).bad)) = true,
     heldP [I (mulI a b), .int .i64 (inV a x), .int .i64 (inV b y), .int .i64 1073741824],
     (!(heldB (mulI a b) (inV a x) (inV b y) 1073741824)) = false,
     ((partI a n d).bad) = false,
     heldP [I (partI a n d), .int .i64 (inV a x), .int .i64 n, .int .i64 d],
     (heldB (partI a n d) (inV a x) n d) = true,
     (d != 0) = true,
     wakesP []]) := by kernel_rfl
theorem IHftfn_leaf (a b : Iv) (x y n d : Int) (hx : I64 x) (hy : I64 y) (hn : I64 n) (hd : I64 d) (hf : fineL [a, b] = true) (s0 : (addI a b).bad = false) (t0 : (subI a b).bad = true) (m0 : (mulI a b).bad = false) (p0 : (partI a n d).bad = false) : Gives P 3 #[I a, I b, .int .i64 x, .int .i64 y, .int .i64 n, .int .i64 d] (.bool true) := by
  obtain ⟨fa, fb⟩ := fine2.1 hf
  obtain ⟨x1, x2⟩ := in_in x fa
  obtain ⟨y1, y2⟩ := in_in y fb
  have ra := fine_iff.1 fa
  have rb := fine_iff.1 fb
  have wx : I64 (inV a x) := by unfold I64; omega
  have wy : I64 (inV b y) := by unfold I64; omega
  have ws : IntKind.i64.wrap (inV a x + inV b y) = inV a x + inV b y := wr (by omega) (by omega)
  have wt : IntKind.i64.wrap (inV a x - inV b y) = inV a x - inV b y := wr (by omega) (by omega)
  have wn1 : IntKind.i64.wrap (0 - a.hi) = -a.hi := by rw [Int.zero_sub]; exact wr (by omega) (by omega)
  have wn2 : IntKind.i64.wrap (0 - a.lo) = -a.lo := by rw [Int.zero_sub]; exact wr (by omega) (by omega)
  have en := (neg_ok fa).1
  have R := IHftfn_run a b x y n d
  refine gives_of_run mo R (ps_cons (ivs_ok (by simp)) (ps_cons (neg_f hf) (ps_cons ⟨⟨_, rfl, fa⟩, hx⟩ (ps_cons ⟨⟨_, rfl, fb⟩, hy⟩ (ps_cons ⟨⟨_, rfl⟩, _, rfl⟩ (ps_cons ⟨⟨_, rfl⟩, _, rfl⟩ (ps_cons ⟨⟨_, rfl⟩, _, rfl⟩ (ps_cons ⟨⟨_, rfl⟩, hn, hd⟩ (ps_cons (neg_t s0) (ps_cons (by rw [ws, (add_good s0).2.2.2]; exact decide_eq_false (by show ¬ (inV a x + inV b y < a.lo + b.lo); omega)) (ps_cons (by rw [ws, (add_good s0).2.2.2]; exact decide_eq_false (by show ¬ (inV a x + inV b y > a.hi + b.hi); omega)) (ps_cons (neg_f t0) (ps_cons ⟨_, rfl⟩ (ps_cons (by rw [wn1, wn2, en]; simp) (ps_cons (neg_t m0) (ps_cons ⟨⟨_, rfl⟩, wx, wy, i64one⟩ (ps_cons (neg_f (mul_held x1 x2 y1 y2 m0)) (ps_cons p0 (ps_cons ⟨⟨_, rfl⟩, wx, hn, hd⟩ (ps_cons (part_held hn hd x1 x2 p0).2 (ps_cons (by simpa using (part_held hn hd x1 x2 p0).1) (ps_cons trivial ps_nil)))))))))))))))))))))) ?_
  rfl
theorem IHftfz_run (a b : Iv) (x y n d : Int) : runF P EL 1 3 [I a, I b, .int .i64 x, .int .i64 y, .int .i64 n, .int .i64 d] (.lit :: (.b false :: (.b true :: (.b false :: (.b false :: (.b false :: (.lit :: (.lit :: (.b false :: (.b true :: (.b false :: (.b true :: (.lit :: (.b false :: (.b true :: []))))))))))))))) =
  some (.bool true,
    [fineP [ivs [a, b]],
     (!(fineL [a, b])) = false,
     inP [I a, .int .i64 x],
     inP [I b, .int .i64 y],
     iP2 [I a, I b],
     iP2 [I a, I b],
     iP2 [I a, I b],
     partP [I a, .int .i64 n, .int .i64 d],
     (!((addI a b).bad)) = true,
     (decide (IntKind.i64.wrap (inV a x + (inV b y)) < (addI a b).lo)) = false,
     (decide (IntKind.i64.wrap (inV a x + (inV b y)) > (addI a b).hi)) = false,
     (!((subI a b).bad)) = false,
     iP1 [I a],
     (!(((negI a).lo == IntKind.i64.wrap (0 - a.hi)) && (((negI a).hi == IntKind.i64.wrap (0 - a.lo)) && (((negI a).bad) == false)))) = false,
     (!((mulI a b).bad)) = true,
     heldP [I (mulI a b), .int .i64 (inV a x), .int .i64 (inV b y), .int .i64 1073741824],
     (!(heldB (mulI a b) (inV a x) (inV b y) 1073741824)) = false,
     ((partI a n d).bad) = true,
     (d != 0) = false,
     ((partI a n d).bad) = true,
     wakesP []]) := by kernel_rfl
theorem IHftfz_leaf (a b : Iv) (x y n d : Int) (hx : I64 x) (hy : I64 y) (hn : I64 n) (hd : I64 d) (hf : fineL [a, b] = true) (s0 : (addI a b).bad = false) (t0 : (subI a b).bad = true) (m0 : (mulI a b).bad = false) (p0 : (partI a n d).bad = true) (z0 : d = 0) : Gives P 3 #[I a, I b, .int .i64 x, .int .i64 y, .int .i64 n, .int .i64 d] (.bool true) := by
  obtain ⟨fa, fb⟩ := fine2.1 hf
  obtain ⟨x1, x2⟩ := in_in x fa
  obtain ⟨y1, y2⟩ := in_in y fb
  have ra := fine_iff.1 fa
  have rb := fine_iff.1 fb
  have wx : I64 (inV a x) := by unfold I64; omega
  have wy : I64 (inV b y) := by unfold I64; omega
  have ws : IntKind.i64.wrap (inV a x + inV b y) = inV a x + inV b y := wr (by omega) (by omega)
  have wt : IntKind.i64.wrap (inV a x - inV b y) = inV a x - inV b y := wr (by omega) (by omega)
  have wn1 : IntKind.i64.wrap (0 - a.hi) = -a.hi := by rw [Int.zero_sub]; exact wr (by omega) (by omega)
  have wn2 : IntKind.i64.wrap (0 - a.lo) = -a.lo := by rw [Int.zero_sub]; exact wr (by omega) (by omega)
  have en := (neg_ok fa).1
  have R := IHftfz_run a b x y n d
  refine gives_of_run mo R (ps_cons (ivs_ok (by simp)) (ps_cons (neg_f hf) (ps_cons ⟨⟨_, rfl, fa⟩, hx⟩ (ps_cons ⟨⟨_, rfl, fb⟩, hy⟩ (ps_cons ⟨⟨_, rfl⟩, _, rfl⟩ (ps_cons ⟨⟨_, rfl⟩, _, rfl⟩ (ps_cons ⟨⟨_, rfl⟩, _, rfl⟩ (ps_cons ⟨⟨_, rfl⟩, hn, hd⟩ (ps_cons (neg_t s0) (ps_cons (by rw [ws, (add_good s0).2.2.2]; exact decide_eq_false (by show ¬ (inV a x + inV b y < a.lo + b.lo); omega)) (ps_cons (by rw [ws, (add_good s0).2.2.2]; exact decide_eq_false (by show ¬ (inV a x + inV b y > a.hi + b.hi); omega)) (ps_cons (neg_f t0) (ps_cons ⟨_, rfl⟩ (ps_cons (by rw [wn1, wn2, en]; simp) (ps_cons (neg_t m0) (ps_cons ⟨⟨_, rfl⟩, wx, wy, i64one⟩ (ps_cons (neg_f (mul_held x1 x2 y1 y2 m0)) (ps_cons p0 (ps_cons (by simpa using z0) (ps_cons p0 (ps_cons trivial ps_nil))))))))))))))))))))) ?_
  rfl
theorem IHftfd_run (a b : Iv) (x y n d : Int) : runF P EL 1 3 [I a, I b, .int .i64 x, .int .i64 y, .int .i64 n, .int .i64 d] (.lit :: (.b false :: (.b true :: (.b false :: (.b false :: (.b false :: (.lit :: (.lit :: (.b false :: (.b true :: (.b false :: (.b true :: (.lit :: (.b true :: [])))))))))))))) =
  some (.bool true,
    [fineP [ivs [a, b]],
     (!(fineL [a, b])) = false,
     inP [I a, .int .i64 x],
     inP [I b, .int .i64 y],
     iP2 [I a, I b],
     iP2 [I a, I b],
     iP2 [I a, I b],
     partP [I a, .int .i64 n, .int .i64 d],
     (!((addI a b).bad)) = true,
     (decide (IntKind.i64.wrap (inV a x + (inV b y)) < (addI a b).lo)) = false,
     (decide (IntKind.i64.wrap (inV a x + (inV b y)) > (addI a b).hi)) = false,
     (!((subI a b).bad)) = false,
     iP1 [I a],
     (!(((negI a).lo == IntKind.i64.wrap (0 - a.hi)) && (((negI a).hi == IntKind.i64.wrap (0 - a.lo)) && (((negI a).bad) == false)))) = false,
     (!((mulI a b).bad)) = true,
     heldP [I (mulI a b), .int .i64 (inV a x), .int .i64 (inV b y), .int .i64 1073741824],
     (!(heldB (mulI a b) (inV a x) (inV b y) 1073741824)) = false,
     ((partI a n d).bad) = true,
     (d != 0) = true,
     wakesP []]) := by kernel_rfl
theorem IHftfd_leaf (a b : Iv) (x y n d : Int) (hx : I64 x) (hy : I64 y) (hn : I64 n) (hd : I64 d) (hf : fineL [a, b] = true) (s0 : (addI a b).bad = false) (t0 : (subI a b).bad = true) (m0 : (mulI a b).bad = false) (p0 : (partI a n d).bad = true) (z0 : d ≠ 0) : Gives P 3 #[I a, I b, .int .i64 x, .int .i64 y, .int .i64 n, .int .i64 d] (.bool true) := by
  obtain ⟨fa, fb⟩ := fine2.1 hf
  obtain ⟨x1, x2⟩ := in_in x fa
  obtain ⟨y1, y2⟩ := in_in y fb
  have ra := fine_iff.1 fa
  have rb := fine_iff.1 fb
  have wx : I64 (inV a x) := by unfold I64; omega
  have wy : I64 (inV b y) := by unfold I64; omega
  have ws : IntKind.i64.wrap (inV a x + inV b y) = inV a x + inV b y := wr (by omega) (by omega)
  have wt : IntKind.i64.wrap (inV a x - inV b y) = inV a x - inV b y := wr (by omega) (by omega)
  have wn1 : IntKind.i64.wrap (0 - a.hi) = -a.hi := by rw [Int.zero_sub]; exact wr (by omega) (by omega)
  have wn2 : IntKind.i64.wrap (0 - a.lo) = -a.lo := by rw [Int.zero_sub]; exact wr (by omega) (by omega)
  have en := (neg_ok fa).1
  have R := IHftfd_run a b x y n d
  refine gives_of_run mo R (ps_cons (ivs_ok (by simp)) (ps_cons (neg_f hf) (ps_cons ⟨⟨_, rfl, fa⟩, hx⟩ (ps_cons ⟨⟨_, rfl, fb⟩, hy⟩ (ps_cons ⟨⟨_, rfl⟩, _, rfl⟩ (ps_cons ⟨⟨_, rfl⟩, _, rfl⟩ (ps_cons ⟨⟨_, rfl⟩, _, rfl⟩ (ps_cons ⟨⟨_, rfl⟩, hn, hd⟩ (ps_cons (neg_t s0) (ps_cons (by rw [ws, (add_good s0).2.2.2]; exact decide_eq_false (by show ¬ (inV a x + inV b y < a.lo + b.lo); omega)) (ps_cons (by rw [ws, (add_good s0).2.2.2]; exact decide_eq_false (by show ¬ (inV a x + inV b y > a.hi + b.hi); omega)) (ps_cons (neg_f t0) (ps_cons ⟨_, rfl⟩ (ps_cons (by rw [wn1, wn2, en]; simp) (ps_cons (neg_t m0) (ps_cons ⟨⟨_, rfl⟩, wx, wy, i64one⟩ (ps_cons (neg_f (mul_held x1 x2 y1 y2 m0)) (ps_cons p0 (ps_cons (by simpa using z0) (ps_cons trivial ps_nil)))))))))))))))))))) ?_
  rfl
theorem IHfttn_run (a b : Iv) (x y n d : Int) : runF P EL 1 3 [I a, I b, .int .i64 x, .int .i64 y, .int .i64 n, .int .i64 d] (.lit :: (.b false :: (.b true :: (.b false :: (.b false :: (.b false :: (.lit :: (.lit :: (.b false :: (.b false :: (.lit :: (.b false :: (.b true :: (.b true :: [])))))))))))))) =
  some (.bool true,
    [fineP [ivs [a, b]],
     (!(fineL [a, b])) = false,
     inP [I a, .int .i64 x],
     inP [I b, .int .i64 y],
     iP2 [I a, I b],
     iP2 [I a, I b],
     iP2 [I a, I b],
     partP [I a, .int .i64 n, .int .i64 d],
     (!((addI a b).bad)) = true,
     (decide (IntKind.i64.wrap (inV a x + (inV b y)) < (addI a b).lo)) = false,
     (decide (IntKind.i64.wrap (inV a x + (inV b y)) > (addI a b).hi)) = false,
     (!((subI a b).bad)) = false,
     iP1 [I a],
     (!(((negI a).lo == IntKind.i64.wrap (0 - a.hi)) && (((negI a).hi == IntKind.i64.wrap (0 - a.lo)) && (((negI a).bad) == false)))) = false,
     (!((mulI a b).bad)) = false,
     ((partI a n d).bad) = false,
     heldP [I (partI a n d), .int .i64 (inV a x), .int .i64 n, .int .i64 d],
     (heldB (partI a n d) (inV a x) n d) = true,
     (d != 0) = true,
     wakesP []]) := by kernel_rfl
theorem IHfttn_leaf (a b : Iv) (x y n d : Int) (hx : I64 x) (hy : I64 y) (hn : I64 n) (hd : I64 d) (hf : fineL [a, b] = true) (s0 : (addI a b).bad = false) (t0 : (subI a b).bad = true) (m0 : (mulI a b).bad = true) (p0 : (partI a n d).bad = false) : Gives P 3 #[I a, I b, .int .i64 x, .int .i64 y, .int .i64 n, .int .i64 d] (.bool true) := by
  obtain ⟨fa, fb⟩ := fine2.1 hf
  obtain ⟨x1, x2⟩ := in_in x fa
  obtain ⟨y1, y2⟩ := in_in y fb
  have ra := fine_iff.1 fa
  have rb := fine_iff.1 fb
  have wx : I64 (inV a x) := by unfold I64; omega
  have wy : I64 (inV b y) := by unfold I64; omega
  have ws : IntKind.i64.wrap (inV a x + inV b y) = inV a x + inV b y := wr (by omega) (by omega)
  have wt : IntKind.i64.wrap (inV a x - inV b y) = inV a x - inV b y := wr (by omega) (by omega)
  have wn1 : IntKind.i64.wrap (0 - a.hi) = -a.hi := by rw [Int.zero_sub]; exact wr (by omega) (by omega)
  have wn2 : IntKind.i64.wrap (0 - a.lo) = -a.lo := by rw [Int.zero_sub]; exact wr (by omega) (by omega)
  have en := (neg_ok fa).1
  have R := IHfttn_run a b x y n d
  refine gives_of_run mo R (ps_cons (ivs_ok (by simp)) (ps_cons (neg_f hf) (ps_cons ⟨⟨_, rfl, fa⟩, hx⟩ (ps_cons ⟨⟨_, rfl, fb⟩, hy⟩ (ps_cons ⟨⟨_, rfl⟩, _, rfl⟩ (ps_cons ⟨⟨_, rfl⟩, _, rfl⟩ (ps_cons ⟨⟨_, rfl⟩, _, rfl⟩ (ps_cons ⟨⟨_, rfl⟩, hn, hd⟩ (ps_cons (neg_t s0) (ps_cons (by rw [ws, (add_good s0).2.2.2]; exact decide_eq_false (by show ¬ (inV a x + inV b y < a.lo + b.lo); omega)) (ps_cons (by rw [ws, (add_good s0).2.2.2]; exact decide_eq_false (by show ¬ (inV a x + inV b y > a.hi + b.hi); omega)) (ps_cons (neg_f t0) (ps_cons ⟨_, rfl⟩ (ps_cons (by rw [wn1, wn2, en]; simp) (ps_cons (neg_f m0) (ps_cons p0 (ps_cons ⟨⟨_, rfl⟩, wx, hn, hd⟩ (ps_cons (part_held hn hd x1 x2 p0).2 (ps_cons (by simpa using (part_held hn hd x1 x2 p0).1) (ps_cons trivial ps_nil)))))))))))))))))))) ?_
  rfl
theorem IHfttz_run (a b : Iv) (x y n d : Int) : runF P EL 1 3 [I a, I b, .int .i64 x, .int .i64 y, .int .i64 n, .int .i64 d] (.lit :: (.b false :: (.b true :: (.b false :: (.b false :: (.b false :: (.lit :: (.lit :: (.b false :: (.b false :: (.lit :: (.b true :: (.lit :: (.b false :: (.b true :: []))))))))))))))) =
  some (.bool true,
    [fineP [ivs [a, b]],
     (!(fineL [a, b])) = false,
     inP [I a, .int .i64 x],
     inP [I b, .int .i64 y],
     iP2 [I a, I b],
     iP2 [I a, I b],
     iP2 [I a, I b],
     partP [I a, .int .i64 n, .int .i64 d],
     (!((addI a b).bad)) = true,
     (decide (IntKind.i64.wrap (inV a x + (inV b y)) < (addI a b).lo)) = false,
     (decide (IntKind.i64.wrap (inV a x + (inV b y)) > (addI a b).hi)) = false,
     (!((subI a b).bad)) = false,
     iP1 [I a],
     (!(((negI a).lo == IntKind.i64.wrap (0 - a.hi)) && (((negI a).hi == IntKind.i64.wrap (0 - a.lo)) && (((negI a).bad) == false)))) = false,
     (!((mulI a b).bad)) = false,
     ((partI a n d).bad) = true,
     (d != 0) = false,
     ((partI a n d).bad) = true,
     wakesP []]) := by kernel_rfl
theorem IHfttz_leaf (a b : Iv) (x y n d : Int) (hx : I64 x) (hy : I64 y) (hn : I64 n) (hd : I64 d) (hf : fineL [a, b] = true) (s0 : (addI a b).bad = false) (t0 : (subI a b).bad = true) (m0 : (mulI a b).bad = true) (p0 : (partI a n d).bad = true) (z0 : d = 0) : Gives P 3 #[I a, I b, .int .i64 x, .int .i64 y, .int .i64 n, .int .i64 d] (.bool true) := by
  obtain ⟨fa, fb⟩ := fine2.1 hf
  obtain ⟨x1, x2⟩ := in_in x fa
  obtain ⟨y1, y2⟩ := in_in y fb
  have ra := fine_iff.1 fa
  have rb := fine_iff.1 fb
  have wx : I64 (inV a x) := by unfold I64; omega
  have wy : I64 (inV b y) := by unfold I64; omega
  have ws : IntKind.i64.wrap (inV a x + inV b y) = inV a x + inV b y := wr (by omega) (by omega)
  have wt : IntKind.i64.wrap (inV a x - inV b y) = inV a x - inV b y := wr (by omega) (by omega)
  have wn1 : IntKind.i64.wrap (0 - a.hi) = -a.hi := by rw [Int.zero_sub]; exact wr (by omega) (by omega)
  have wn2 : IntKind.i64.wrap (0 - a.lo) = -a.lo := by rw [Int.zero_sub]; exact wr (by omega) (by omega)
  have en := (neg_ok fa).1
  have R := IHfttz_run a b x y n d
  refine gives_of_run mo R (ps_cons (ivs_ok (by simp)) (ps_cons (neg_f hf) (ps_cons ⟨⟨_, rfl, fa⟩, hx⟩ (ps_cons ⟨⟨_, rfl, fb⟩, hy⟩ (ps_cons ⟨⟨_, rfl⟩, _, rfl⟩ (ps_cons ⟨⟨_, rfl⟩, _, rfl⟩ (ps_cons ⟨⟨_, rfl⟩, _, rfl⟩ (ps_cons ⟨⟨_, rfl⟩, hn, hd⟩ (ps_cons (neg_t s0) (ps_cons (by rw [ws, (add_good s0).2.2.2]; exact decide_eq_false (by show ¬ (inV a x + inV b y < a.lo + b.lo); omega)) (ps_cons (by rw [ws, (add_good s0).2.2.2]; exact decide_eq_false (by show ¬ (inV a x + inV b y > a.hi + b.hi); omega)) (ps_cons (neg_f t0) (ps_cons ⟨_, rfl⟩ (ps_cons (by rw [wn1, wn2, en]; simp) (ps_cons (neg_f m0) (ps_cons p0 (ps_cons (by simpa using z0) (ps_cons p0 (ps_cons trivial ps_nil))))))))))))))))))) ?_
  rfl
theorem IHfttd_run (a b : Iv) (x y n d : Int) : runF P EL 1 3 [I a, I b, .int .i64 x, .int .i64 y, .int .i64 n, .int .i64 d] (.lit :: (.b false :: (.b true :: (.b false :: (.b false :: (.b false :: (.lit :: (.lit :: (.b false :: (.b false :: (.lit :: (.b true :: (.lit :: (.b true :: [])))))))))))))) =
  some (.bool true,
    [fineP [ivs [a, b]],
     (!(fineL [a, b])) = false,
     inP [I a, .int .i64 x],
     inP [I b, .int .i64 y],
     iP2 [I a, I b],
     iP2 [I a, I b],
     iP2 [I a, I b],
     partP [I a, .int .i64 n, .int .i64 d],
     (!((addI a b).bad)) = true,
     (decide (IntKind.i64.wrap (inV a x + (inV b y)) < (addI a b).lo)) = false,
     (decide (IntKind.i64.wrap (inV a x + (inV b y)) > (addI a b).hi)) = false,
     (!((subI a b).bad)) = false,
     iP1 [I a],
     (!(((negI a).lo == IntKind.i64.wrap (0 - a.hi)) && (((negI a).hi == IntKind.i64.wrap (0 - a.lo)) && (((negI a).bad) == false)))) = false,
     (!((mulI a b).bad)) = false,
     ((partI a n d).bad) = true,
     (d != 0) = true,
     wakesP []]) := by kernel_rfl
theorem IHfttd_leaf (a b : Iv) (x y n d : Int) (hx : I64 x) (hy : I64 y) (hn : I64 n) (hd : I64 d) (hf : fineL [a, b] = true) (s0 : (addI a b).bad = false) (t0 : (subI a b).bad = true) (m0 : (mulI a b).bad = true) (p0 : (partI a n d).bad = true) (z0 : d ≠ 0) : Gives P 3 #[I a, I b, .int .i64 x, .int .i64 y, .int .i64 n, .int .i64 d] (.bool true) := by
  obtain ⟨fa, fb⟩ := fine2.1 hf
  obtain ⟨x1, x2⟩ := in_in x fa
  obtain ⟨y1, y2⟩ := in_in y fb
  have ra := fine_iff.1 fa
  have rb := fine_iff.1 fb
  have wx : I64 (inV a x) := by unfold I64; omega
  have wy : I64 (inV b y) := by unfold I64; omega
  have ws : IntKind.i64.wrap (inV a x + inV b y) = inV a x + inV b y := wr (by omega) (by omega)
  have wt : IntKind.i64.wrap (inV a x - inV b y) = inV a x - inV b y := wr (by omega) (by omega)
  have wn1 : IntKind.i64.wrap (0 - a.hi) = -a.hi := by rw [Int.zero_sub]; exact wr (by omega) (by omega)
  have wn2 : IntKind.i64.wrap (0 - a.lo) = -a.lo := by rw [Int.zero_sub]; exact wr (by omega) (by omega)
  have en := (neg_ok fa).1
  have R := IHfttd_run a b x y n d
  refine gives_of_run mo R (ps_cons (ivs_ok (by simp)) (ps_cons (neg_f hf) (ps_cons ⟨⟨_, rfl, fa⟩, hx⟩ (ps_cons ⟨⟨_, rfl, fb⟩, hy⟩ (ps_cons ⟨⟨_, rfl⟩, _, rfl⟩ (ps_cons ⟨⟨_, rfl⟩, _, rfl⟩ (ps_cons ⟨⟨_, rfl⟩, _, rfl⟩ (ps_cons ⟨⟨_, rfl⟩, hn, hd⟩ (ps_cons (neg_t s0) (ps_cons (by rw [ws, (add_good s0).2.2.2]; exact decide_eq_false (by show ¬ (inV a x + inV b y < a.lo + b.lo); omega)) (ps_cons (by rw [ws, (add_good s0).2.2.2]; exact decide_eq_false (by show ¬ (inV a x + inV b y > a.hi + b.hi); omega)) (ps_cons (neg_f t0) (ps_cons ⟨_, rfl⟩ (ps_cons (by rw [wn1, wn2, en]; simp) (ps_cons (neg_f m0) (ps_cons p0 (ps_cons (by simpa using z0) (ps_cons trivial ps_nil)))))))))))))))))) ?_
  rfl
theorem IHtffn_run (a b : Iv) (x y n d : Int) : runF P EL 1 3 [I a, I b, .int .i64 x, .int .i64 y, .int .i64 n, .int .i64 d] (.lit :: (.b false :: (.b false :: (.lit :: (.lit :: (.b true :: (.b false :: (.b false :: (.b false :: (.b true :: (.b false :: (.b false :: (.b true :: (.b true :: [])))))))))))))) =
  some (.bool true,
    [fineP [ivs [a, b]],
     (!(fineL [a, b])) = false,
     inP [I a, .int .i64 x],
     inP [I b, .int .i64 y],
     iP2 [I a, I b],
     iP2 [I a, I b],
     iP2 [I a, I b],
     partP [I a, .int .i64 n, .int .i64 d],
     (!((addI a b).bad)) = false,
     (!((subI a b).bad)) = true,
     (decide (IntKind.i64.wrap (inV a x - (inV b y)) < (subI a b).lo)) = false,
     (decide (IntKind.i64.wrap (inV a x - (inV b y)) > (subI a b).hi)) = false,
     iP1 [I a],
     (!(((negI a).lo == IntKind.i64.wrap (0 - a.hi)) && (((negI a).hi == IntKind.i64.wrap (0 - a.lo)) && (((negI a).bad) == false)))) = false,
     (!((mulI a b).bad)) = true,
     heldP [I (mulI a b), .int .i64 (inV a x), .int .i64 (inV b y), .int .i64 1073741824],
     (!(heldB (mulI a b) (inV a x) (inV b y) 1073741824)) = false,
     ((partI a n d).bad) = false,
     heldP [I (partI a n d), .int .i64 (inV a x), .int .i64 n, .int .i64 d],
     (heldB (partI a n d) (inV a x) n d) = true,
     (d != 0) = true,
     wakesP []]) := by kernel_rfl
theorem IHtffn_leaf (a b : Iv) (x y n d : Int) (hx : I64 x) (hy : I64 y) (hn : I64 n) (hd : I64 d) (hf : fineL [a, b] = true) (s0 : (addI a b).bad = true) (t0 : (subI a b).bad = false) (m0 : (mulI a b).bad = false) (p0 : (partI a n d).bad = false) : Gives P 3 #[I a, I b, .int .i64 x, .int .i64 y, .int .i64 n, .int .i64 d] (.bool true) := by
  obtain ⟨fa, fb⟩ := fine2.1 hf
  obtain ⟨x1, x2⟩ := in_in x fa
  obtain ⟨y1, y2⟩ := in_in y fb
  have ra := fine_iff.1 fa
  have rb := fine_iff.1 fb
  have wx : I64 (inV a x) := by unfold I64; omega
  have wy : I64 (inV b y) := by unfold I64; omega
  have ws : IntKind.i64.wrap (inV a x + inV b y) = inV a x + inV b y := wr (by omega) (by omega)
  have wt : IntKind.i64.wrap (inV a x - inV b y) = inV a x - inV b y := wr (by omega) (by omega)
  have wn1 : IntKind.i64.wrap (0 - a.hi) = -a.hi := by rw [Int.zero_sub]; exact wr (by omega) (by omega)
  have wn2 : IntKind.i64.wrap (0 - a.lo) = -a.lo := by rw [Int.zero_sub]; exact wr (by omega) (by omega)
  have en := (neg_ok fa).1
  have R := IHtffn_run a b x y n d
  refine gives_of_run mo R (ps_cons (ivs_ok (by simp)) (ps_cons (neg_f hf) (ps_cons ⟨⟨_, rfl, fa⟩, hx⟩ (ps_cons ⟨⟨_, rfl, fb⟩, hy⟩ (ps_cons ⟨⟨_, rfl⟩, _, rfl⟩ (ps_cons ⟨⟨_, rfl⟩, _, rfl⟩ (ps_cons ⟨⟨_, rfl⟩, _, rfl⟩ (ps_cons ⟨⟨_, rfl⟩, hn, hd⟩ (ps_cons (neg_f s0) (ps_cons (neg_t t0) (ps_cons (by rw [wt, (sub_good t0).2.2.2]; exact decide_eq_false (by show ¬ (inV a x - inV b y < a.lo - b.hi); omega)) (ps_cons (by rw [wt, (sub_good t0).2.2.2]; exact decide_eq_false (by show ¬ (inV a x - inV b y > a.hi - b.lo); omega)) (ps_cons ⟨_, rfl⟩ (ps_cons (by rw [wn1, wn2, en]; simp) (ps_cons (neg_t m0) (ps_cons ⟨⟨_, rfl⟩, wx, wy, i64one⟩ (ps_cons (neg_f (mul_held x1 x2 y1 y2 m0)) (ps_cons p0 (ps_cons ⟨⟨_, rfl⟩, wx, hn, hd⟩ (ps_cons (part_held hn hd x1 x2 p0).2 (ps_cons (by simpa using (part_held hn hd x1 x2 p0).1) (ps_cons trivial ps_nil)))))))))))))))))))))) ?_
  rfl
theorem IHtffz_run (a b : Iv) (x y n d : Int) : runF P EL 1 3 [I a, I b, .int .i64 x, .int .i64 y, .int .i64 n, .int .i64 d] (.lit :: (.b false :: (.b false :: (.lit :: (.lit :: (.b true :: (.b false :: (.b false :: (.b false :: (.b true :: (.b false :: (.b true :: (.lit :: (.b false :: (.b true :: []))))))))))))))) =
  some (.bool true,
    [fineP [ivs [a, b]],
     (!(fineL [a, b])) = false,
     inP [I a, .int .i64 x],
     inP [I b, .int .i64 y],
     iP2 [I a, I b],
     iP2 [I a, I b],
     iP2 [I a, I b],
     partP [I a, .int .i64 n, .int .i64 d],
     (!((addI a b).bad)) = false,
     (!((subI a b).bad)) = true,
     (decide (IntKind.i64.wrap (inV a x - (inV b y)) < (subI a b).lo)) = false,
     (decide (IntKind.i64.wrap (inV a x - (inV b y)) > (subI a b).hi)) = false,
     iP1 [I a],
     (!(((negI a).lo == IntKind.i64.wrap (0 - a.hi)) && (((negI a).hi == IntKind.i64.wrap (0 - a.lo)) && (((negI a).bad) == false)))) = false,
     (!((mulI a b).bad)) = true,
     heldP [I (mulI a b), .int .i64 (inV a x), .int .i64 (inV b y), .int .i64 1073741824],
     (!(heldB (mulI a b) (inV a x) (inV b y) 1073741824)) = false,
     ((partI a n d).bad) = true,
     (d != 0) = false,
     ((partI a n d).bad) = true,
     wakesP []]) := by kernel_rfl
theorem IHtffz_leaf (a b : Iv) (x y n d : Int) (hx : I64 x) (hy : I64 y) (hn : I64 n) (hd : I64 d) (hf : fineL [a, b] = true) (s0 : (addI a b).bad = true) (t0 : (subI a b).bad = false) (m0 : (mulI a b).bad = false) (p0 : (partI a n d).bad = true) (z0 : d = 0) : Gives P 3 #[I a, I b, .int .i64 x, .int .i64 y, .int .i64 n, .int .i64 d] (.bool true) := by
  obtain ⟨fa, fb⟩ := fine2.1 hf
  obtain ⟨x1, x2⟩ := in_in x fa
  obtain ⟨y1, y2⟩ := in_in y fb
  have ra := fine_iff.1 fa
  have rb := fine_iff.1 fb
  have wx : I64 (inV a x) := by unfold I64; omega
  have wy : I64 (inV b y) := by unfold I64; omega
  have ws : IntKind.i64.wrap (inV a x + inV b y) = inV a x + inV b y := wr (by omega) (by omega)
  have wt : IntKind.i64.wrap (inV a x - inV b y) = inV a x - inV b y := wr (by omega) (by omega)
  have wn1 : IntKind.i64.wrap (0 - a.hi) = -a.hi := by rw [Int.zero_sub]; exact wr (by omega) (by omega)
  have wn2 : IntKind.i64.wrap (0 - a.lo) = -a.lo := by rw [Int.zero_sub]; exact wr (by omega) (by omega)
  have en := (neg_ok fa).1
  have R := IHtffz_run a b x y n d
  refine gives_of_run mo R (ps_cons (ivs_ok (by simp)) (ps_cons (neg_f hf) (ps_cons ⟨⟨_, rfl, fa⟩, hx⟩ (ps_cons ⟨⟨_, rfl, fb⟩, hy⟩ (ps_cons ⟨⟨_, rfl⟩, _, rfl⟩ (ps_cons ⟨⟨_, rfl⟩, _, rfl⟩ (ps_cons ⟨⟨_, rfl⟩, _, rfl⟩ (ps_cons ⟨⟨_, rfl⟩, hn, hd⟩ (ps_cons (neg_f s0) (ps_cons (neg_t t0) (ps_cons (by rw [wt, (sub_good t0).2.2.2]; exact decide_eq_false (by show ¬ (inV a x - inV b y < a.lo - b.hi); omega)) (ps_cons (by rw [wt, (sub_good t0).2.2.2]; exact decide_eq_false (by show ¬ (inV a x - inV b y > a.hi - b.lo); omega)) (ps_cons ⟨_, rfl⟩ (ps_cons (by rw [wn1, wn2, en]; simp) (ps_cons (neg_t m0) (ps_cons ⟨⟨_, rfl⟩, wx, wy, i64one⟩ (ps_cons (neg_f (mul_held x1 x2 y1 y2 m0)) (ps_cons p0 (ps_cons (by simpa using z0) (ps_cons p0 (ps_cons trivial ps_nil))))))))))))))))))))) ?_
  rfl
theorem IHtffd_run (a b : Iv) (x y n d : Int) : runF P EL 1 3 [I a, I b, .int .i64 x, .int .i64 y, .int .i64 n, .int .i64 d] (.lit :: (.b false :: (.b false :: (.lit :: (.lit :: (.b true :: (.b false :: (.b false :: (.b false :: (.b true :: (.b false :: (.b true :: (.lit :: (.b true :: [])))))))))))))) =
  some (.bool true,
    [fineP [ivs [a, b]],
     (!(fineL [a, b])) = false,
     inP [I a, .int .i64 x],
     inP [I b, .int .i64 y],
     iP2 [I a, I b],
     iP2 [I a, I b],
     iP2 [I a, I b],
     partP [I a, .int .i64 n, .int .i64 d],
     (!((addI a b).bad)) = false,
     (!((subI a b).bad)) = true,
     (decide (IntKind.i64.wrap (inV a x - (inV b y)) < (subI a b).lo)) = false,
     (decide (IntKind.i64.wrap (inV a x - (inV b y)) > (subI a b).hi)) = false,
     iP1 [I a],
     (!(((negI a).lo == IntKind.i64.wrap (0 - a.hi)) && (((negI a).hi == IntKind.i64.wrap (0 - a.lo)) && (((negI a).bad) == false)))) = false,
     (!((mulI a b).bad)) = true,
     heldP [I (mulI a b), .int .i64 (inV a x), .int .i64 (inV b y), .int .i64 1073741824],
     (!(heldB (mulI a b) (inV a x) (inV b y) 1073741824)) = false,
     ((partI a n d).bad) = true,
     (d != 0) = true,
     wakesP []]) := by kernel_rfl
theorem IHtffd_leaf (a b : Iv) (x y n d : Int) (hx : I64 x) (hy : I64 y) (hn : I64 n) (hd : I64 d) (hf : fineL [a, b] = true) (s0 : (addI a b).bad = true) (t0 : (subI a b).bad = false) (m0 : (mulI a b).bad = false) (p0 : (partI a n d).bad = true) (z0 : d ≠ 0) : Gives P 3 #[I a, I b, .int .i64 x, .int .i64 y, .int .i64 n, .int .i64 d] (.bool true) := by
  obtain ⟨fa, fb⟩ := fine2.1 hf
  obtain ⟨x1, x2⟩ := in_in x fa
  obtain ⟨y1, y2⟩ := in_in y fb
  have ra := fine_iff.1 fa
  have rb := fine_iff.1 fb
  have wx : I64 (inV a x) := by unfold I64; omega
  have wy : I64 (inV b y) := by unfold I64; omega
  have ws : IntKind.i64.wrap (inV a x + inV b y) = inV a x + inV b y := wr (by omega) (by omega)
  have wt : IntKind.i64.wrap (inV a x - inV b y) = inV a x - inV b y := wr (by omega) (by omega)
  have wn1 : IntKind.i64.wrap (0 - a.hi) = -a.hi := by rw [Int.zero_sub]; exact wr (by omega) (by omega)
  have wn2 : IntKind.i64.wrap (0 - a.lo) = -a.lo := by rw [Int.zero_sub]; exact wr (by omega) (by omega)
  have en := (neg_ok fa).1
  have R := IHtffd_run a b x y n d
  refine gives_of_run mo R (ps_cons (ivs_ok (by simp)) (ps_cons (neg_f hf) (ps_cons ⟨⟨_, rfl, fa⟩, hx⟩ (ps_cons ⟨⟨_, rfl, fb⟩, hy⟩ (ps_cons ⟨⟨_, rfl⟩, _, rfl⟩ (ps_cons ⟨⟨_, rfl⟩, _, rfl⟩ (ps_cons ⟨⟨_, rfl⟩, _, rfl⟩ (ps_cons ⟨⟨_, rfl⟩, hn, hd⟩ (ps_cons (neg_f s0) (ps_cons (neg_t t0) (ps_cons (by rw [wt, (sub_good t0).2.2.2]; exact decide_eq_false (by show ¬ (inV a x - inV b y < a.lo - b.hi); omega)) (ps_cons (by rw [wt, (sub_good t0).2.2.2]; exact decide_eq_false (by show ¬ (inV a x - inV b y > a.hi - b.lo); omega)) (ps_cons ⟨_, rfl⟩ (ps_cons (by rw [wn1, wn2, en]; simp) (ps_cons (neg_t m0) (ps_cons ⟨⟨_, rfl⟩, wx, wy, i64one⟩ (ps_cons (neg_f (mul_held x1 x2 y1 y2 m0)) (ps_cons p0 (ps_cons (by simpa using z0) (ps_cons trivial ps_nil)))))))))))))))))))) ?_
  rfl
theorem IHtftn_run (a b : Iv) (x y n d : Int) : runF P EL 1 3 [I a, I b, .int .i64 x, .int .i64 y, .int .i64 n, .int .i64 d] (.lit :: (.b false :: (.b false :: (.lit :: (.lit :: (.b true :: (.b false :: (.b false :: (.b false :: (.b false :: (.lit :: (.b false :: (.b true :: (.b true :: [])))))))))))))) =
  some (.bool true,
    [fineP [ivs [a, b]],
     (!(fineL [a, b])) = false,
     inP [I a, .int .i64 x],
     inP [I b, .int .i64 y],
     iP2 [I a, I b],
     iP2 [I a, I b],
     iP2 [I a, I b],
     partP [I a, .int .i64 n, .int .i64 d],
     (!((addI a b).bad)) = false,
     (!((subI a b).bad)) = true,
     (decide (IntKind.i64.wrap (inV a x - (inV b y)) < (subI a b).lo)) = false,
     (decide (IntKind.i64.wrap (inV a x - (inV b y)) > (subI a b).hi)) = false,
     iP1 [I a],
     (!(((negI a).lo == IntKind.i64.wrap (0 - a.hi)) && (((negI a).hi == IntKind.i64.wrap (0 - a.lo)) && (((negI a).bad) == false)))) = false,
     (!((mulI a b).bad)) = false,
     ((partI a n d).bad) = false,
     heldP [I (partI a n d), .int .i64 (inV a x), .int .i64 n, .int .i64 d],
     (heldB (partI a n d) (inV a x) n d) = true,
     (d != 0) = true,
     wakesP []]) := by kernel_rfl
theorem IHtftn_leaf (a b : Iv) (x y n d : Int) (hx : I64 x) (hy : I64 y) (hn : I64 n) (hd : I64 d) (hf : fineL [a, b] = true) (s0 : (addI a b).bad = true) (t0 : (subI a b).bad = false) (m0 : (mulI a b).bad = true) (p0 : (partI a n d).bad = false) : Gives P 3 #[I a, I b, .int .i64 x, .int .i64 y, .int .i64 n, .int .i64 d] (.bool true) := by
  obtain ⟨fa, fb⟩ := fine2.1 hf
  obtain ⟨x1, x2⟩ := in_in x fa
  obtain ⟨y1, y2⟩ := in_in y fb
  have ra := fine_iff.1 fa
  have rb := fine_iff.1 fb
  have wx : I64 (inV a x) := by unfold I64; omega
  have wy : I64 (inV b y) := by unfold I64; omega
  have ws : IntKind.i64.wrap (inV a x + inV b y) = inV a x + inV b y := wr (by omega) (by omega)
  have wt : IntKind.i64.wrap (inV a x - inV b y) = inV a x - inV b y := wr (by omega) (by omega)
  have wn1 : IntKind.i64.wrap (0 - a.hi) = -a.hi := by rw [Int.zero_sub]; exact wr (by omega) (by omega)
  have wn2 : IntKind.i64.wrap (0 - a.lo) = -a.lo := by rw [Int.zero_sub]; exact wr (by omega) (by omega)
  have en := (neg_ok fa).1
  have R := IHtftn_run a b x y n d
  refine gives_of_run mo R (ps_cons (ivs_ok (by simp)) (ps_cons (neg_f hf) (ps_cons ⟨⟨_, rfl, fa⟩, hx⟩ (ps_cons ⟨⟨_, rfl, fb⟩, hy⟩ (ps_cons ⟨⟨_, rfl⟩, _, rfl⟩ (ps_cons ⟨⟨_, rfl⟩, _, rfl⟩ (ps_cons ⟨⟨_, rfl⟩, _, rfl⟩ (ps_cons ⟨⟨_, rfl⟩, hn, hd⟩ (ps_cons (neg_f s0) (ps_cons (neg_t t0) (ps_cons (by rw [wt, (sub_good t0).2.2.2]; exact decide_eq_false (by show ¬ (inV a x - inV b y < a.lo - b.hi); omega)) (ps_cons (by rw [wt, (sub_good t0).2.2.2]; exact decide_eq_false (by show ¬ (inV a x - inV b y > a.hi - b.lo); omega)) (ps_cons ⟨_, rfl⟩ (ps_cons (by rw [wn1, wn2, en]; simp) (ps_cons (neg_f m0) (ps_cons p0 (ps_cons ⟨⟨_, rfl⟩, wx, hn, hd⟩ (ps_cons (part_held hn hd x1 x2 p0).2 (ps_cons (by simpa using (part_held hn hd x1 x2 p0).1) (ps_cons trivial ps_nil)))))))))))))))))))) ?_
  rfl
theorem IHtftz_run (a b : Iv) (x y n d : Int) : runF P EL 1 3 [I a, I b, .int .i64 x, .int .i64 y, .int .i64 n, .int .i64 d] (.lit :: (.b false :: (.b false :: (.lit :: (.lit :: (.b true :: (.b false :: (.b false :: (.b false :: (.b false :: (.lit :: (.b true :: (.lit :: (.b false :: (.b true :: []))))))))))))))) =
  some (.bool true,
    [fineP [ivs [a, b]],
     (!(fineL [a, b])) = false,
     inP [I a, .int .i64 x],
     inP [I b, .int .i64 y],
     iP2 [I a, I b],
     iP2 [I a, I b],
     iP2 [I a, I b],
     partP [I a, .int .i64 n, .int .i64 d],
     (!((addI a b).bad)) = false,
     (!((subI a b).bad)) = true,
     (decide (IntKind.i64.wrap (inV a x - (inV b y)) < (subI a b).lo)) = false,
     (decide (IntKind.i64.wrap (inV a x - (inV b y)) > (subI a b).hi)) = false,
     iP1 [I a],
     (!(((negI a).lo == IntKind.i64.wrap (0 - a.hi)) && (((negI a).hi == IntKind.i64.wrap (0 - a.lo)) && (((negI a).bad) == false)))) = false,
     (!((mulI a b).bad)) = false,
     ((partI a n d).bad) = true,
     (d != 0) = false,
     ((partI a n d).bad) = true,
     wakesP []]) := by kernel_rfl
theorem IHtftz_leaf (a b : Iv) (x y n d : Int) (hx : I64 x) (hy : I64 y) (hn : I64 n) (hd : I64 d) (hf : fineL [a, b] = true) (s0 : (addI a b).bad = true) (t0 : (subI a b).bad = false) (m0 : (mulI a b).bad = true) (p0 : (partI a n d).bad = true) (z0 : d = 0) : Gives P 3 #[I a, I b, .int .i64 x, .int .i64 y, .int .i64 n, .int .i64 d] (.bool true) := by
  obtain ⟨fa, fb⟩ := fine2.1 hf
  obtain ⟨x1, x2⟩ := in_in x fa
  obtain ⟨y1, y2⟩ := in_in y fb
  have ra := fine_iff.1 fa
  have rb := fine_iff.1 fb
  have wx : I64 (inV a x) := by unfold I64; omega
  have wy : I64 (inV b y) := by unfold I64; omega
  have ws : IntKind.i64.wrap (inV a x + inV b y) = inV a x + inV b y := wr (by omega) (by omega)
  have wt : IntKind.i64.wrap (inV a x - inV b y) = inV a x - inV b y := wr (by omega) (by omega)
  have wn1 : IntKind.i64.wrap (0 - a.hi) = -a.hi := by rw [Int.zero_sub]; exact wr (by omega) (by omega)
  have wn2 : IntKind.i64.wrap (0 - a.lo) = -a.lo := by rw [Int.zero_sub]; exact wr (by omega) (by omega)
  have en := (neg_ok fa).1
  have R := IHtftz_run a b x y n d
  refine gives_of_run mo R (ps_cons (ivs_ok (by simp)) (ps_cons (neg_f hf) (ps_cons ⟨⟨_, rfl, fa⟩, hx⟩ (ps_cons ⟨⟨_, rfl, fb⟩, hy⟩ (ps_cons ⟨⟨_, rfl⟩, _, rfl⟩ (ps_cons ⟨⟨_, rfl⟩, _, rfl⟩ (ps_cons ⟨⟨_, rfl⟩, _, rfl⟩ (ps_cons ⟨⟨_, rfl⟩, hn, hd⟩ (ps_cons (neg_f s0) (ps_cons (neg_t t0) (ps_cons (by rw [wt, (sub_good t0).2.2.2]; exact decide_eq_false (by show ¬ (inV a x - inV b y < a.lo - b.hi); omega)) (ps_cons (by rw [wt, (sub_good t0).2.2.2]; exact decide_eq_false (by show ¬ (inV a x - inV b y > a.hi - b.lo); omega)) (ps_cons ⟨_, rfl⟩ (ps_cons (by rw [wn1, wn2, en]; simp) (ps_cons (neg_f m0) (ps_cons p0 (ps_cons (by simpa using z0) (ps_cons p0 (ps_cons trivial ps_nil))))))))))))))))))) ?_
  rfl
theorem IHtftd_run (a b : Iv) (x y n d : Int) : runF P EL 1 3 [I a, I b, .int .i64 x, .int .i64 y, .int .i64 n, .int .i64 d] (.lit :: (.b false :: (.b false :: (.lit :: (.lit :: (.b true :: (.b false :: (.b false :: (.b false :: (.b false :: (.lit :: (.b true :: (.lit :: (.b true :: [])))))))))))))) =
  some (.bool true,
    [fineP [ivs [a, b]],
     (!(fineL [a, b])) = false,
     inP [I a, .int .i64 x],
     inP [I b, .int .i64 y],
     iP2 [I a, I b],
     iP2 [I a, I b],
     iP2 [I a, I b],
     partP [I a, .int .i64 n, .int .i64 d],
     (!((addI a b).bad)) = false,
     (!((subI a b).bad)) = true,
     (decide (IntKind.i64.wrap (inV a x - (inV b y)) < (subI a b).lo)) = false,
     (decide (IntKind.i64.wrap (inV a x - (inV b y)) > (subI a b).hi)) = false,
     iP1 [I a],
     (!(((negI a).lo == IntKind.i64.wrap (0 - a.hi)) && (((negI a).hi == IntKind.i64.wrap (0 - a.lo)) && (((negI a).bad) == false)))) = false,
     (!((mulI a b).bad)) = false,
     ((partI a n d).bad) = true,
     (d != 0) = true,
     wakesP []]) := by kernel_rfl
theorem IHtftd_leaf (a b : Iv) (x y n d : Int) (hx : I64 x) (hy : I64 y) (hn : I64 n) (hd : I64 d) (hf : fineL [a, b] = true) (s0 : (addI a b).bad = true) (t0 : (subI a b).bad = false) (m0 : (mulI a b).bad = true) (p0 : (partI a n d).bad = true) (z0 : d ≠ 0) : Gives P 3 #[I a, I b, .int .i64 x, .int .i64 y, .int .i64 n, .int .i64 d] (.bool true) := by
  obtain ⟨fa, fb⟩ := fine2.1 hf
  obtain ⟨x1, x2⟩ := in_in x fa
  obtain ⟨y1, y2⟩ := in_in y fb
  have ra := fine_iff.1 fa
  have rb := fine_iff.1 fb
  have wx : I64 (inV a x) := by unfold I64; omega
  have wy : I64 (inV b y) := by unfold I64; omega
  have ws : IntKind.i64.wrap (inV a x + inV b y) = inV a x + inV b y := wr (by omega) (by omega)
  have wt : IntKind.i64.wrap (inV a x - inV b y) = inV a x - inV b y := wr (by omega) (by omega)
  have wn1 : IntKind.i64.wrap (0 - a.hi) = -a.hi := by rw [Int.zero_sub]; exact wr (by omega) (by omega)
  have wn2 : IntKind.i64.wrap (0 - a.lo) = -a.lo := by rw [Int.zero_sub]; exact wr (by omega) (by omega)
  have en := (neg_ok fa).1
  have R := IHtftd_run a b x y n d
  refine gives_of_run mo R (ps_cons (ivs_ok (by simp)) (ps_cons (neg_f hf) (ps_cons ⟨⟨_, rfl, fa⟩, hx⟩ (ps_cons ⟨⟨_, rfl, fb⟩, hy⟩ (ps_cons ⟨⟨_, rfl⟩, _, rfl⟩ (ps_cons ⟨⟨_, rfl⟩, _, rfl⟩ (ps_cons ⟨⟨_, rfl⟩, _, rfl⟩ (ps_cons ⟨⟨_, rfl⟩, hn, hd⟩ (ps_cons (neg_f s0) (ps_cons (neg_t t0) (ps_cons (by rw [wt, (sub_good t0).2.2.2]; exact decide_eq_false (by show ¬ (inV a x - inV b y < a.lo - b.hi); omega)) (ps_cons (by rw [wt, (sub_good t0).2.2.2]; exact decide_eq_false (by show ¬ (inV a x - inV b y > a.hi - b.lo); omega)) (ps_cons ⟨_, rfl⟩ (ps_cons (by rw [wn1, wn2, en]; simp) (ps_cons (neg_f m0) (ps_cons p0 (ps_cons (by simpa using z0) (ps_cons trivial ps_nil)))))))))))))))))) ?_
  rfl
theorem IHttfn_run (a b : Iv) (x y n d : Int) : runF P EL 1 3 [I a, I b, .int .i64 x, .int .i64 y, .int .i64 n, .int .i64 d] (.lit :: (.b false :: (.b false :: (.lit :: (.lit :: (.b false :: (.lit :: (.lit :: (.b false :: (.b true :: (.b false :: (.b false :: (.b true :: (.b true :: [])))))))))))))) =
  some (.bool true,
    [fineP [ivs [a, b]],
     (!(fineL [a, b])) = false,
     inP [I a, .int .i64 x],
     inP [I b, .int .i64 y],
     iP2 [I a, I b],
     iP2 [I a, I b],
     iP2 [I a, I b],
     partP [I a, .int .i64 n, .int .i64 d],
     (!((addI a b).bad)) = false,
     (!((subI a b).bad)) = false,
     iP1 [I a],
     (!(((negI a).lo == IntKind.i64.wrap (0 - a.hi)) && (((negI a).hi == IntKind.i64.wrap (0 - a.lo)) && (((negI a).bad) == false)))) = false,
     (!((mulI a b).bad)) = true,
     heldP [I (mulI a b), .int .i64 (inV a x), .int .i64 (inV b y), .int .i64 1073741824],
     (!(heldB (mulI a b) (inV a x) (inV b y) 1073741824)) = false,
     ((partI a n d).bad) = false,
     heldP [I (partI a n d), .int .i64 (inV a x), .int .i64 n, .int .i64 d],
     (heldB (partI a n d) (inV a x) n d) = true,
     (d != 0) = true,
     wakesP []]) := by kernel_rfl
theorem IHttfn_leaf (a b : Iv) (x y n d : Int) (hx : I64 x) (hy : I64 y) (hn : I64 n) (hd : I64 d) (hf : fineL [a, b] = true) (s0 : (addI a b).bad = true) (t0 : (subI a b).bad = true) (m0 : (mulI a b).bad = false) (p0 : (partI a n d).bad = false) : Gives P 3 #[I a, I b, .int .i64 x, .int .i64 y, .int .i64 n, .int .i64 d] (.bool true) := by
  obtain ⟨fa, fb⟩ := fine2.1 hf
  obtain ⟨x1, x2⟩ := in_in x fa
  obtain ⟨y1, y2⟩ := in_in y fb
  have ra := fine_iff.1 fa
  have rb := fine_iff.1 fb
  have wx : I64 (inV a x) := by unfold I64; omega
  have wy : I64 (inV b y) := by unfold I64; omega
  have ws : IntKind.i64.wrap (inV a x + inV b y) = inV a x + inV b y := wr (by omega) (by omega)
  have wt : IntKind.i64.wrap (inV a x - inV b y) = inV a x - inV b y := wr (by omega) (by omega)
  have wn1 : IntKind.i64.wrap (0 - a.hi) = -a.hi := by rw [Int.zero_sub]; exact wr (by omega) (by omega)
  have wn2 : IntKind.i64.wrap (0 - a.lo) = -a.lo := by rw [Int.zero_sub]; exact wr (by omega) (by omega)
  have en := (neg_ok fa).1
  have R := IHttfn_run a b x y n d
  refine gives_of_run mo R (ps_cons (ivs_ok (by simp)) (ps_cons (neg_f hf) (ps_cons ⟨⟨_, rfl, fa⟩, hx⟩ (ps_cons ⟨⟨_, rfl, fb⟩, hy⟩ (ps_cons ⟨⟨_, rfl⟩, _, rfl⟩ (ps_cons ⟨⟨_, rfl⟩, _, rfl⟩ (ps_cons ⟨⟨_, rfl⟩, _, rfl⟩ (ps_cons ⟨⟨_, rfl⟩, hn, hd⟩ (ps_cons (neg_f s0) (ps_cons (neg_f t0) (ps_cons ⟨_, rfl⟩ (ps_cons (by rw [wn1, wn2, en]; simp) (ps_cons (neg_t m0) (ps_cons ⟨⟨_, rfl⟩, wx, wy, i64one⟩ (ps_cons (neg_f (mul_held x1 x2 y1 y2 m0)) (ps_cons p0 (ps_cons ⟨⟨_, rfl⟩, wx, hn, hd⟩ (ps_cons (part_held hn hd x1 x2 p0).2 (ps_cons (by simpa using (part_held hn hd x1 x2 p0).1) (ps_cons trivial ps_nil)))))))))))))))))))) ?_
  rfl
theorem IHttfz_run (a b : Iv) (x y n d : Int) : runF P EL 1 3 [I a, I b, .int .i64 x, .int .i64 y, .int .i64 n, .int .i64 d] (.lit :: (.b false :: (.b false :: (.lit :: (.lit :: (.b false :: (.lit :: (.lit :: (.b false :: (.b true :: (.b false :: (.b true :: (.lit :: (.b false :: (.b true :: []))))))))))))))) =
  some (.bool true,
    [fineP [ivs [a, b]],
     (!(fineL [a, b])) = false,
     inP [I a, .int .i64 x],
     inP [I b, .int .i64 y],
     iP2 [I a, I b],
     iP2 [I a, I b],
     iP2 [I a, I b],
     partP [I a, .int .i64 n, .int .i64 d],
     (!((addI a b).bad)) = false,
     (!((subI a b).bad)) = false,
     iP1 [I a],
     (!(((negI a).lo == IntKind.i64.wrap (0 - a.hi)) && (((negI a).hi == IntKind.i64.wrap (0 - a.lo)) && (((negI a).bad) == false)))) = false,
     (!((mulI a b).bad)) = true,
     heldP [I (mulI a b), .int .i64 (inV a x), .int .i64 (inV b y), .int .i64 1073741824],
     (!(heldB (mulI a b) (inV a x) (inV b y) 1073741824)) = false,
     ((partI a n d).bad) = true,
     (d != 0) = false,
     ((partI a n d).bad) = true,
     wakesP []]) := by kernel_rfl
theorem IHttfz_leaf (a b : Iv) (x y n d : Int) (hx : I64 x) (hy : I64 y) (hn : I64 n) (hd : I64 d) (hf : fineL [a, b] = true) (s0 : (addI a b).bad = true) (t0 : (subI a b).bad = true) (m0 : (mulI a b).bad = false) (p0 : (partI a n d).bad = true) (z0 : d = 0) : Gives P 3 #[I a, I b, .int .i64 x, .int .i64 y, .int .i64 n, .int .i64 d] (.bool true) := by
  obtain ⟨fa, fb⟩ := fine2.1 hf
  obtain ⟨x1, x2⟩ := in_in x fa
  obtain ⟨y1, y2⟩ := in_in y fb
  have ra := fine_iff.1 fa
  have rb := fine_iff.1 fb
  have wx : I64 (inV a x) := by unfold I64; omega
  have wy : I64 (inV b y) := by unfold I64; omega
  have ws : IntKind.i64.wrap (inV a x + inV b y) = inV a x + inV b y := wr (by omega) (by omega)
  have wt : IntKind.i64.wrap (inV a x - inV b y) = inV a x - inV b y := wr (by omega) (by omega)
  have wn1 : IntKind.i64.wrap (0 - a.hi) = -a.hi := by rw [Int.zero_sub]; exact wr (by omega) (by omega)
  have wn2 : IntKind.i64.wrap (0 - a.lo) = -a.lo := by rw [Int.zero_sub]; exact wr (by omega) (by omega)
  have en := (neg_ok fa).1
  have R := IHttfz_run a b x y n d
  refine gives_of_run mo R (ps_cons (ivs_ok (by simp)) (ps_cons (neg_f hf) (ps_cons ⟨⟨_, rfl, fa⟩, hx⟩ (ps_cons ⟨⟨_, rfl, fb⟩, hy⟩ (ps_cons ⟨⟨_, rfl⟩, _, rfl⟩ (ps_cons ⟨⟨_, rfl⟩, _, rfl⟩ (ps_cons ⟨⟨_, rfl⟩, _, rfl⟩ (ps_cons ⟨⟨_, rfl⟩, hn, hd⟩ (ps_cons (neg_f s0) (ps_cons (neg_f t0) (ps_cons ⟨_, rfl⟩ (ps_cons (by rw [wn1, wn2, en]; simp) (ps_cons (neg_t m0) (ps_cons ⟨⟨_, rfl⟩, wx, wy, i64one⟩ (ps_cons (neg_f (mul_held x1 x2 y1 y2 m0)) (ps_cons p0 (ps_cons (by simpa using z0) (ps_cons p0 (ps_cons trivial ps_nil))))))))))))))))))) ?_
  rfl
theorem IHttfd_run (a b : Iv) (x y n d : Int) : runF P EL 1 3 [I a, I b, .int .i64 x, .int .i64 y, .int .i64 n, .int .i64 d] (.lit :: (.b false :: (.b false :: (.lit :: (.lit :: (.b false :: (.lit :: (.lit :: (.b false :: (.b true :: (.b false :: (.b true :: (.lit :: (.b true :: [])))))))))))))) =
  some (.bool true,
    [fineP [ivs [a, b]],
     (!(fineL [a, b])) = false,
     inP [I a, .int .i64 x],
     inP [I b, .int .i64 y],
     iP2 [I a, I b],
     iP2 [I a, I b],
     iP2 [I a, I b],
     partP [I a, .int .i64 n, .int .i64 d],
     (!((addI a b).bad)) = false,
     (!((subI a b).bad)) = false,
     iP1 [I a],
     (!(((negI a).lo == IntKind.i64.wrap (0 - a.hi)) && (((negI a).hi == IntKind.i64.wrap (0 - a.lo)) && (((negI a).bad) == false)))) = false,
     (!((mulI a b).bad)) = true,
     heldP [I (mulI a b), .int .i64 (inV a x), .int .i64 (inV b y), .int .i64 1073741824],
     (!(heldB (mulI a b) (inV a x) (inV b y) 1073741824)) = false,
     ((partI a n d).bad) = true,
     (d != 0) = true,
     wakesP []]) := by kernel_rfl
theorem IHttfd_leaf (a b : Iv) (x y n d : Int) (hx : I64 x) (hy : I64 y) (hn : I64 n) (hd : I64 d) (hf : fineL [a, b] = true) (s0 : (addI a b).bad = true) (t0 : (subI a b).bad = true) (m0 : (mulI a b).bad = false) (p0 : (partI a n d).bad = true) (z0 : d ≠ 0) : Gives P 3 #[I a, I b, .int .i64 x, .int .i64 y, .int .i64 n, .int .i64 d] (.bool true) := by
  obtain ⟨fa, fb⟩ := fine2.1 hf
  obtain ⟨x1, x2⟩ := in_in x fa
  obtain ⟨y1, y2⟩ := in_in y fb
  have ra := fine_iff.1 fa
  have rb := fine_iff.1 fb
  have wx : I64 (inV a x) := by unfold I64; omega
  have wy : I64 (inV b y) := by unfold I64; omega
  have ws : IntKind.i64.wrap (inV a x + inV b y) = inV a x + inV b y := wr (by omega) (by omega)
  have wt : IntKind.i64.wrap (inV a x - inV b y) = inV a x - inV b y := wr (by omega) (by omega)
  have wn1 : IntKind.i64.wrap (0 - a.hi) = -a.hi := by rw [Int.zero_sub]; exact wr (by omega) (by omega)
  have wn2 : IntKind.i64.wrap (0 - a.lo) = -a.lo := by rw [Int.zero_sub]; exact wr (by omega) (by omega)
  have en := (neg_ok fa).1
  have R := IHttfd_run a b x y n d
  refine gives_of_run mo R (ps_cons (ivs_ok (by simp)) (ps_cons (neg_f hf) (ps_cons ⟨⟨_, rfl, fa⟩, hx⟩ (ps_cons ⟨⟨_, rfl, fb⟩, hy⟩ (ps_cons ⟨⟨_, rfl⟩, _, rfl⟩ (ps_cons ⟨⟨_, rfl⟩, _, rfl⟩ (ps_cons ⟨⟨_, rfl⟩, _, rfl⟩ (ps_cons ⟨⟨_, rfl⟩, hn, hd⟩ (ps_cons (neg_f s0) (ps_cons (neg_f t0) (ps_cons ⟨_, rfl⟩ (ps_cons (by rw [wn1, wn2, en]; simp) (ps_cons (neg_t m0) (ps_cons ⟨⟨_, rfl⟩, wx, wy, i64one⟩ (ps_cons (neg_f (mul_held x1 x2 y1 y2 m0)) (ps_cons p0 (ps_cons (by simpa using z0) (ps_cons trivial ps_nil)))))))))))))))))) ?_
  rfl
theorem IHtttn_run (a b : Iv) (x y n d : Int) : runF P EL 1 3 [I a, I b, .int .i64 x, .int .i64 y, .int .i64 n, .int .i64 d] (.lit :: (.b false :: (.b false :: (.lit :: (.lit :: (.b false :: (.lit :: (.lit :: (.b false :: (.b false :: (.lit :: (.b false :: (.b true :: (.b true :: [])))))))))))))) =
  some (.bool true,
    [fineP [ivs [a, b]],
     (!(fineL [a, b])) = false,
     inP [I a, .int .i64 x],
     inP [I b, .int .i64 y],
     iP2 [I a, I b],
     iP2 [I a, I b],
     iP2 [I a, I b],
     partP [I a, .int .i64 n, .int .i64 d],
     (!((addI a b).bad)) = false,
     (!((subI a b).bad)) = false,
     iP1 [I a],
     (!(((negI a).lo == IntKind.i64.wrap (0 - a.hi)) && (((negI a).hi == IntKind.i64.wrap (0 - a.lo)) && (((negI a).bad) == false)))) = false,
     (!((mulI a b).bad)) = false,
     ((partI a n d).bad) = false,
     heldP [I (partI a n d), .int .i64 (inV a x), .int .i64 n, .int .i64 d],
     (heldB (partI a n d) (inV a x) n d) = true,
     (d != 0) = true,
     wakesP []]) := by kernel_rfl
theorem IHtttn_leaf (a b : Iv) (x y n d : Int) (hx : I64 x) (hy : I64 y) (hn : I64 n) (hd : I64 d) (hf : fineL [a, b] = true) (s0 : (addI a b).bad = true) (t0 : (subI a b).bad = true) (m0 : (mulI a b).bad = true) (p0 : (partI a n d).bad = false) : Gives P 3 #[I a, I b, .int .i64 x, .int .i64 y, .int .i64 n, .int .i64 d] (.bool true) := by
  obtain ⟨fa, fb⟩ := fine2.1 hf
  obtain ⟨x1, x2⟩ := in_in x fa
  obtain ⟨y1, y2⟩ := in_in y fb
  have ra := fine_iff.1 fa
  have rb := fine_iff.1 fb
  have wx : I64 (inV a x) := by unfold I64; omega
  have wy : I64 (inV b y) := by unfold I64; omega
  have ws : IntKind.i64.wrap (inV a x + inV b y) = inV a x + inV b y := wr (by omega) (by omega)
  have wt : IntKind.i64.wrap (inV a x - inV b y) = inV a x - inV b y := wr (by omega) (by omega)
  have wn1 : IntKind.i64.wrap (0 - a.hi) = -a.hi := by rw [Int.zero_sub]; exact wr (by omega) (by omega)
  have wn2 : IntKind.i64.wrap (0 - a.lo) = -a.lo := by rw [Int.zero_sub]; exact wr (by omega) (by omega)
  have en := (neg_ok fa).1
  have R := IHtttn_run a b x y n d
  refine gives_of_run mo R (ps_cons (ivs_ok (by simp)) (ps_cons (neg_f hf) (ps_cons ⟨⟨_, rfl, fa⟩, hx⟩ (ps_cons ⟨⟨_, rfl, fb⟩, hy⟩ (ps_cons ⟨⟨_, rfl⟩, _, rfl⟩ (ps_cons ⟨⟨_, rfl⟩, _, rfl⟩ (ps_cons ⟨⟨_, rfl⟩, _, rfl⟩ (ps_cons ⟨⟨_, rfl⟩, hn, hd⟩ (ps_cons (neg_f s0) (ps_cons (neg_f t0) (ps_cons ⟨_, rfl⟩ (ps_cons (by rw [wn1, wn2, en]; simp) (ps_cons (neg_f m0) (ps_cons p0 (ps_cons ⟨⟨_, rfl⟩, wx, hn, hd⟩ (ps_cons (part_held hn hd x1 x2 p0).2 (ps_cons (by simpa using (part_held hn hd x1 x2 p0).1) (ps_cons trivial ps_nil)))))))))))))))))) ?_
  rfl
theorem IHtttz_run (a b : Iv) (x y n d : Int) : runF P EL 1 3 [I a, I b, .int .i64 x, .int .i64 y, .int .i64 n, .int .i64 d] (.lit :: (.b false :: (.b false :: (.lit :: (.lit :: (.b false :: (.lit :: (.lit :: (.b false :: (.b false :: (.lit :: (.b true :: (.lit :: (.b false :: (.b true :: []))))))))))))))) =
  some (.bool true,
    [fineP [ivs [a, b]],
     (!(fineL [a, b])) = false,
     inP [I a, .int .i64 x],
     inP [I b, .int .i64 y],
     iP2 [I a, I b],
     iP2 [I a, I b],
     iP2 [I a, I b],
     partP [I a, .int .i64 n, .int .i64 d],
     (!((addI a b).bad)) = false,
     (!((subI a b).bad)) = false,
     iP1 [I a],
     (!(((negI a).lo == IntKind.i64.wrap (0 - a.hi)) && (((negI a).hi == IntKind.i64.wrap (0 - a.lo)) && (((negI a).bad) == false)))) = false,
     (!((mulI a b).bad)) = false,
     ((partI a n d).bad) = true,
     (d != 0) = false,
     ((partI a n d).bad) = true,
     wakesP []]) := by kernel_rfl
theorem IHtttz_leaf (a b : Iv) (x y n d : Int) (hx : I64 x) (hy : I64 y) (hn : I64 n) (hd : I64 d) (hf : fineL [a, b] = true) (s0 : (addI a b).bad = true) (t0 : (subI a b).bad = true) (m0 : (mulI a b).bad = true) (p0 : (partI a n d).bad = true) (z0 : d = 0) : Gives P 3 #[I a, I b, .int .i64 x, .int .i64 y, .int .i64 n, .int .i64 d] (.bool true) := by
  obtain ⟨fa, fb⟩ := fine2.1 hf
  obtain ⟨x1, x2⟩ := in_in x fa
  obtain ⟨y1, y2⟩ := in_in y fb
  have ra := fine_iff.1 fa
  have rb := fine_iff.1 fb
  have wx : I64 (inV a x) := by unfold I64; omega
  have wy : I64 (inV b y) := by unfold I64; omega
  have ws : IntKind.i64.wrap (inV a x + inV b y) = inV a x + inV b y := wr (by omega) (by omega)
  have wt : IntKind.i64.wrap (inV a x - inV b y) = inV a x - inV b y := wr (by omega) (by omega)
  have wn1 : IntKind.i64.wrap (0 - a.hi) = -a.hi := by rw [Int.zero_sub]; exact wr (by omega) (by omega)
  have wn2 : IntKind.i64.wrap (0 - a.lo) = -a.lo := by rw [Int.zero_sub]; exact wr (by omega) (by omega)
  have en := (neg_ok fa).1
  have R := IHtttz_run a b x y n d
  refine gives_of_run mo R (ps_cons (ivs_ok (by simp)) (ps_cons (neg_f hf) (ps_cons ⟨⟨_, rfl, fa⟩, hx⟩ (ps_cons ⟨⟨_, rfl, fb⟩, hy⟩ (ps_cons ⟨⟨_, rfl⟩, _, rfl⟩ (ps_cons ⟨⟨_, rfl⟩, _, rfl⟩ (ps_cons ⟨⟨_, rfl⟩, _, rfl⟩ (ps_cons ⟨⟨_, rfl⟩, hn, hd⟩ (ps_cons (neg_f s0) (ps_cons (neg_f t0) (ps_cons ⟨_, rfl⟩ (ps_cons (by rw [wn1, wn2, en]; simp) (ps_cons (neg_f m0) (ps_cons p0 (ps_cons (by simpa using z0) (ps_cons p0 (ps_cons trivial ps_nil))))))))))))))))) ?_
  rfl
theorem IHtttd_run (a b : Iv) (x y n d : Int) : runF P EL 1 3 [I a, I b, .int .i64 x, .int .i64 y, .int .i64 n, .int .i64 d] (.lit :: (.b false :: (.b false :: (.lit :: (.lit :: (.b false :: (.lit :: (.lit :: (.b false :: (.b false :: (.lit :: (.b true :: (.lit :: (.b true :: [])))))))))))))) =
  some (.bool true,
    [fineP [ivs [a, b]],
     (!(fineL [a, b])) = false,
     inP [I a, .int .i64 x],
     inP [I b, .int .i64 y],
     iP2 [I a, I b],
     iP2 [I a, I b],
     iP2 [I a, I b],
     partP [I a, .int .i64 n, .int .i64 d],
     (!((addI a b).bad)) = false,
     (!((subI a b).bad)) = false,
     iP1 [I a],
     (!(((negI a).lo == IntKind.i64.wrap (0 - a.hi)) && (((negI a).hi == IntKind.i64.wrap (0 - a.lo)) && (((negI a).bad) == false)))) = false,
     (!((mulI a b).bad)) = false,
     ((partI a n d).bad) = true,
     (d != 0) = true,
     wakesP []]) := by kernel_rfl
theorem IHtttd_leaf (a b : Iv) (x y n d : Int) (hx : I64 x) (hy : I64 y) (hn : I64 n) (hd : I64 d) (hf : fineL [a, b] = true) (s0 : (addI a b).bad = true) (t0 : (subI a b).bad = true) (m0 : (mulI a b).bad = true) (p0 : (partI a n d).bad = true) (z0 : d ≠ 0) : Gives P 3 #[I a, I b, .int .i64 x, .int .i64 y, .int .i64 n, .int .i64 d] (.bool true) := by
  obtain ⟨fa, fb⟩ := fine2.1 hf
  obtain ⟨x1, x2⟩ := in_in x fa
  obtain ⟨y1, y2⟩ := in_in y fb
  have ra := fine_iff.1 fa
  have rb := fine_iff.1 fb
  have wx : I64 (inV a x) := by unfold I64; omega
  have wy : I64 (inV b y) := by unfold I64; omega
  have ws : IntKind.i64.wrap (inV a x + inV b y) = inV a x + inV b y := wr (by omega) (by omega)
  have wt : IntKind.i64.wrap (inV a x - inV b y) = inV a x - inV b y := wr (by omega) (by omega)
  have wn1 : IntKind.i64.wrap (0 - a.hi) = -a.hi := by rw [Int.zero_sub]; exact wr (by omega) (by omega)
  have wn2 : IntKind.i64.wrap (0 - a.lo) = -a.lo := by rw [Int.zero_sub]; exact wr (by omega) (by omega)
  have en := (neg_ok fa).1
  have R := IHtttd_run a b x y n d
  refine gives_of_run mo R (ps_cons (ivs_ok (by simp)) (ps_cons (neg_f hf) (ps_cons ⟨⟨_, rfl, fa⟩, hx⟩ (ps_cons ⟨⟨_, rfl, fb⟩, hy⟩ (ps_cons ⟨⟨_, rfl⟩, _, rfl⟩ (ps_cons ⟨⟨_, rfl⟩, _, rfl⟩ (ps_cons ⟨⟨_, rfl⟩, _, rfl⟩ (ps_cons ⟨⟨_, rfl⟩, hn, hd⟩ (ps_cons (neg_f s0) (ps_cons (neg_f t0) (ps_cons ⟨_, rfl⟩ (ps_cons (by rw [wn1, wn2, en]; simp) (ps_cons (neg_f m0) (ps_cons p0 (ps_cons (by simpa using z0) (ps_cons trivial ps_nil)))))))))))))))) ?_
  rfl
theorem IvalHolds_all (a b : Iv) {x y n d : Int} (hx : I64 x) (hy : I64 y) (hn : I64 n) (hd : I64 d) : Gives P 3 #[I a, I b, .int .i64 x, .int .i64 y, .int .i64 n, .int .i64 d] (.bool true) := by
  cases hf : fineL [a, b] with
  | false => exact IH0_leaf a b x y n d hf
  | true =>
    cases s0 : (addI a b).bad <;> cases t0 : (subI a b).bad <;> cases m0 : (mulI a b).bad <;> cases p0 : (partI a n d).bad
    · exact IHfffn_leaf a b x y n d hx hy hn hd hf s0 t0 m0 p0
    · by_cases z0 : d = 0
      · exact IHfffz_leaf a b x y n d hx hy hn hd hf s0 t0 m0 p0 z0
      · exact IHfffd_leaf a b x y n d hx hy hn hd hf s0 t0 m0 p0 z0
    · exact IHfftn_leaf a b x y n d hx hy hn hd hf s0 t0 m0 p0
    · by_cases z0 : d = 0
      · exact IHfftz_leaf a b x y n d hx hy hn hd hf s0 t0 m0 p0 z0
      · exact IHfftd_leaf a b x y n d hx hy hn hd hf s0 t0 m0 p0 z0
    · exact IHftfn_leaf a b x y n d hx hy hn hd hf s0 t0 m0 p0
    · by_cases z0 : d = 0
      · exact IHftfz_leaf a b x y n d hx hy hn hd hf s0 t0 m0 p0 z0
      · exact IHftfd_leaf a b x y n d hx hy hn hd hf s0 t0 m0 p0 z0
    · exact IHfttn_leaf a b x y n d hx hy hn hd hf s0 t0 m0 p0
    · by_cases z0 : d = 0
      · exact IHfttz_leaf a b x y n d hx hy hn hd hf s0 t0 m0 p0 z0
      · exact IHfttd_leaf a b x y n d hx hy hn hd hf s0 t0 m0 p0 z0
    · exact IHtffn_leaf a b x y n d hx hy hn hd hf s0 t0 m0 p0
    · by_cases z0 : d = 0
      · exact IHtffz_leaf a b x y n d hx hy hn hd hf s0 t0 m0 p0 z0
      · exact IHtffd_leaf a b x y n d hx hy hn hd hf s0 t0 m0 p0 z0
    · exact IHtftn_leaf a b x y n d hx hy hn hd hf s0 t0 m0 p0
    · by_cases z0 : d = 0
      · exact IHtftz_leaf a b x y n d hx hy hn hd hf s0 t0 m0 p0 z0
      · exact IHtftd_leaf a b x y n d hx hy hn hd hf s0 t0 m0 p0 z0
    · exact IHttfn_leaf a b x y n d hx hy hn hd hf s0 t0 m0 p0
    · by_cases z0 : d = 0
      · exact IHttfz_leaf a b x y n d hx hy hn hd hf s0 t0 m0 p0 z0
      · exact IHttfd_leaf a b x y n d hx hy hn hd hf s0 t0 m0 p0 z0
    · exact IHtttn_leaf a b x y n d hx hy hn hd hf s0 t0 m0 p0
    · by_cases z0 : d = 0
      · exact IHtttz_leaf a b x y n d hx hy hn hd hf s0 t0 m0 p0 z0
      · exact IHtttd_leaf a b x y n d hx hy hn hd hf s0 t0 m0 p0 z0
end Go.Iv
