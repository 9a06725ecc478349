/-
 The law OrbitTells comes to true. Printed by orC.py.
-/
import Derived.Test.YtekplphjbngabaaGreatDoorOrT
set_option maxRecDepth 100000
namespace Go.Or
open Go Go.RowKit Go.Sx Go.Nm Go.Wd Go.Qt Go.Iv Go.An Go.Wv Go.Nv Go.Ke Go.Proofs
noncomputable def EOt : Env P := ⟨⟨[oWakes] ++ orbC ++ ref21C, []⟩, [], 30, []⟩
def fb : Nat → List Dec → List Dec
 | 0, r => r
 | k + 1, r => .b false :: fb k r
def tb : Nat → List Dec → List Dec
 | 0, r => r
 | k + 1, r => .b true :: tb k r
def Zr (a e : Int) (x : Nat → Int) (j : Nat) : Bool := plE a e (x j) != 0
structure Hr (a e m : Int) (x : Nat → Int) (n : Nat) : Prop where
 a : I64 a
 e : I64 e
 m : I64 m
 x : ∀ j, j < n → I64 (x j)
 n : n ≤ 6
def otA (a e m : Int) (i : Iv) (x : Nat → Int) (n : Nat) : List DV := [.v (.int .i64 a), .v (.int .i64 e), .v (.int .i64 m), .v (I i), .row ⟨3, 1, n, fun j => .int .i64 (x j), false⟩]
section
variable {a e m : Int} {i : Iv} {x : Nat → Int}
def otP0 (a e m : Int) (i : Iv) (tl : List Prop) : List Prop :=
 (i3P [.int .i64 a, .int .i64 e, .int .i64 m]) :: (i3P [.int .i64 a, .int .i64 e, .int .i64 m]) :: (i3P [.int .i64 a, .int .i64 e, .int .i64 m]) :: (i3P [.int .i64 a, .int .i64 e, .int .i64 m]) :: ((!(((xI a e m).lo == (xI a e m).lo) && (((xI a e m).hi == (xI a e m).hi) && (((xI a e m).bad) == ((xI a e m).bad))))) = false) :: ((!(((yI a e m).lo == (yI a e m).lo) && (((yI a e m).hi == (yI a e m).hi) && (((yI a e m).bad) == ((yI a e m).bad))))) = false) :: ((plE a e m != plE a e m) = false) :: ((!((atX a e m == atX a e m) && ((atY a e m == atY a e m) && true))) = false) :: ((atR a e m != atR a e m) = false) :: ((plE a e m != plE a e m) = false) :: (nP1 [.int .i64 e]) :: (nP1 [.int .i64 e]) :: (iP1 [I i]) :: (iP1 [I i]) :: ((((smI e).lo == (smI e).lo) && (((smI e).hi == (smI e).hi) && (((smI e).bad) == ((smI e).bad)))) = true) :: ((smE e == smE e) = true) :: ((whN i == whN i) = true) :: ((whR i == whR i) = true) :: (((fineL [i]) == (fineL [i])) = true) :: (wakesP []) :: tl
theorem otP0_ok (ha : I64 a) (he : I64 e) (hm : I64 m) {tl : List Prop} (h : ∀ p ∈ tl, p) : ∀ p ∈ otP0 a e m i tl, p := by
 have _u := And.intro ha he
 exact ps_cons (⟨ha, he, hm⟩) (ps_cons (⟨ha, he, hm⟩) (ps_cons (⟨ha, he, hm⟩) (ps_cons (⟨ha, he, hm⟩) (ps_cons (by simp) (ps_cons (by simp) (ps_cons (by simp) (ps_cons (by simp) (ps_cons (by simp) (ps_cons (by simp) (ps_cons (he) (ps_cons (he) (ps_cons (⟨_, rfl⟩) (ps_cons (⟨_, rfl⟩) (ps_cons (by simp) (ps_cons (by simp) (ps_cons (by simp) (ps_cons (by simp) (ps_cons (by simp) (ps_cons (trivial) (h))))))))))))))))))))
theorem ot0_0 (H : Hr a e m x 0)  : GivesD P 3 (otA a e m i x 0) (.bool true) :=
 givesD_of_run (E := EOt) (lv := 3) (ds := (.lit :: (fb 6 (lits 5 (tb 5 (lits 5 [])))))) (v := .bool true) (ps := otP0 a e m i ([])) mo (by kernel_rfl) (otP0_ok H.a H.e H.m (ps_nil)) rfl
theorem ot0 (H : Hr a e m x 0) : GivesD P 3 (otA a e m i x 0) (.bool true) := by
 exact ot0_0 H 
def otP1 (a e m : Int) (i : Iv) (tl : List Prop) : List Prop :=
 (i3P [.int .i64 a, .int .i64 e, .int .i64 m]) :: (i3P [.int .i64 a, .int .i64 e, .int .i64 m]) :: (i3P [.int .i64 a, .int .i64 e, .int .i64 m]) :: (i3P [.int .i64 a, .int .i64 e, .int .i64 m]) :: ((!(((xI a e m).lo == (xI a e m).lo) && (((xI a e m).hi == (xI a e m).hi) && (((xI a e m).bad) == ((xI a e m).bad))))) = false) :: ((!(((yI a e m).lo == (yI a e m).lo) && (((yI a e m).hi == (yI a e m).hi) && (((yI a e m).bad) == ((yI a e m).bad))))) = false) :: ((plE a e m != plE a e m) = false) :: ((!((atX a e m == atX a e m) && ((atY a e m == atY a e m) && true))) = false) :: ((atR a e m != atR a e m) = false) :: ((plE a e m != plE a e m) = false) :: (nP1 [.int .i64 e]) :: (nP1 [.int .i64 e]) :: (iP1 [I i]) :: (iP1 [I i]) :: tl
theorem otP1_ok (ha : I64 a) (he : I64 e) (hm : I64 m) {tl : List Prop} (h : ∀ p ∈ tl, p) : ∀ p ∈ otP1 a e m i tl, p := by
 have _u := And.intro ha he
 exact ps_cons (⟨ha, he, hm⟩) (ps_cons (⟨ha, he, hm⟩) (ps_cons (⟨ha, he, hm⟩) (ps_cons (⟨ha, he, hm⟩) (ps_cons (by simp) (ps_cons (by simp) (ps_cons (by simp) (ps_cons (by simp) (ps_cons (by simp) (ps_cons (by simp) (ps_cons (he) (ps_cons (he) (ps_cons (⟨_, rfl⟩) (ps_cons (⟨_, rfl⟩) (h))))))))))))))
def otK0 (a e : Int) (x : Nat → Int) (n j : Nat) (tl : List Prop) : List Prop :=
 (j < n) :: (j < n) :: (i3P [.int .i64 a, .int .i64 e, .int .i64 (x j)]) :: ((plE a e (x j) != 0) = true) :: (j < n) :: (j < n) :: (i3P [.int .i64 a, .int .i64 e, .int .i64 (x j)]) :: ((plE a e (x j) != 0) = true) :: tl
theorem otK0_ok {n j : Nat} {tl : List Prop} (H : Hr a e m x n) (hj : j < n) (q : Zr a e x j = true) (h : ∀ p ∈ tl, p) : ∀ p ∈ otK0 a e x n j tl, p := by
 have hx := H.x j hj
 have hm : j < 1000000 := by have := H.n; omega
 have _u := And.intro hx hm
 have ha := H.a
 have he := H.e
 have _u := And.intro ha he
 exact ps_cons (hj) (ps_cons (hj) (ps_cons (⟨ha, he, hx⟩) (ps_cons (q) (ps_cons (hj) (ps_cons (hj) (ps_cons (⟨ha, he, hx⟩) (ps_cons (q) (h))))))))
def otP2 (_a e _m : Int) (i : Iv) (tl : List Prop) : List Prop :=
 ((((smI e).lo == (smI e).lo) && (((smI e).hi == (smI e).hi) && (((smI e).bad) == ((smI e).bad)))) = true) :: ((smE e == smE e) = true) :: ((whN i == whN i) = true) :: ((whR i == whR i) = true) :: (((fineL [i]) == (fineL [i])) = true) :: tl
theorem otP2_ok (ha : I64 a) (he : I64 e) (_hm : I64 m) {tl : List Prop} (h : ∀ p ∈ tl, p) : ∀ p ∈ otP2 a e m i tl, p := by
 have _u := And.intro ha he
 exact ps_cons (by simp) (ps_cons (by simp) (ps_cons (by simp) (ps_cons (by simp) (ps_cons (by simp) (h)))))
def otK1 (a e : Int) (x : Nat → Int) (_n j : Nat) (tl : List Prop) : List Prop :=
 ((plE a e (x j) == plE a e (x j)) = true) :: tl
theorem otK1_ok {n j : Nat} {tl : List Prop} (H : Hr a e m x n) (hj : j < n) (h : ∀ p ∈ tl, p) : ∀ p ∈ otK1 a e x n j tl, p := by
 have hx := H.x j hj
 have hm : j < 1000000 := by have := H.n; omega
 have _u := And.intro hx hm
 have ha := H.a
 have he := H.e
 have _u := And.intro ha he
 exact ps_cons (by simp) (h)
theorem ot1_0 (H : Hr a e m x 1) (q0 : Zr a e x 0 = true) : GivesD P 3 (otA a e m i x 1) (.bool true) :=
 givesD_of_run (E := EOt) (lv := 4) (ds := (.lit :: (fb 6 (lits 4 (.b true :: (lits 5 (tb 6 (lits 4 (.b true :: []))))))))) (v := .bool true) (ps := otP1 a e m i (otK0 a e x 1 0 (otP2 a e m i (otK1 a e x 1 0 ((wakesP []) :: ([])))))) mo (by kernel_rfl) (otP1_ok H.a H.e H.m (otK0_ok H (by decide) q0 (otP2_ok H.a H.e H.m (otK1_ok H (by decide) (ps_cons (trivial) (ps_nil)))))) rfl
def otK2 (a e : Int) (x : Nat → Int) (n j : Nat) (tl : List Prop) : List Prop :=
 (j < n) :: (j < n) :: (i3P [.int .i64 a, .int .i64 e, .int .i64 (x j)]) :: ((plE a e (x j) != 0) = false) :: (j < 1000000) :: ((plE a e (x j) != 0) = false) :: (j < n) :: (j < n) :: (i3P [.int .i64 a, .int .i64 e, .int .i64 (x j)]) :: ((plE a e (x j) != 0) = false) :: (j < 1000000) :: tl
theorem otK2_ok {n j : Nat} {tl : List Prop} (H : Hr a e m x n) (hj : j < n) (q : Zr a e x j = false) (h : ∀ p ∈ tl, p) : ∀ p ∈ otK2 a e x n j tl, p := by
 have hx := H.x j hj
 have hm : j < 1000000 := by have := H.n; omega
 have _u := And.intro hx hm
 have ha := H.a
 have he := H.e
 have _u := And.intro ha he
 exact ps_cons (hj) (ps_cons (hj) (ps_cons (⟨ha, he, hx⟩) (ps_cons (q) (ps_cons (hm) (ps_cons (q) (ps_cons (hj) (ps_cons (hj) (ps_cons (⟨ha, he, hx⟩) (ps_cons (q) (ps_cons (hm) (h)))))))))))
def otK3 (a e : Int) (x : Nat → Int) (n j : Nat) (tl : List Prop) : List Prop :=
 (j < n) :: (j < n) :: (j < n) :: (j < n) :: ((!((atX a e (x j) == atX a e (x j)) && ((atY a e (x j) == atY a e (x j)) && true))) = false) :: tl
theorem otK3_ok {n j : Nat} {tl : List Prop} (H : Hr a e m x n) (hj : j < n) (h : ∀ p ∈ tl, p) : ∀ p ∈ otK3 a e x n j tl, p := by
 have hx := H.x j hj
 have hm : j < 1000000 := by have := H.n; omega
 have _u := And.intro hx hm
 have ha := H.a
 have he := H.e
 have _u := And.intro ha he
 exact ps_cons (hj) (ps_cons (hj) (ps_cons (hj) (ps_cons (hj) (ps_cons (by simp) (h)))))
theorem ot1_1 (H : Hr a e m x 1) (q0 : Zr a e x 0 = false) : GivesD P 3 (otA a e m i x 1) (.bool true) :=
 givesD_of_run (E := EOt) (lv := 4) (ds := (.lit :: (fb 6 (lits 4 (.b false :: (.lit :: (.lit :: (.b false :: (lits 4 (.b false :: (.lit :: (.lit :: (tb 5 (lits 5 (.b false :: (.lit :: (.lit :: (.lit :: [])))))))))))))))))) (v := .bool true) (ps := otP1 a e m i (otK2 a e x 1 0 (otP2 a e m i (otK3 a e x 1 0 ((wakesP []) :: ([])))))) mo (by kernel_rfl) (otP1_ok H.a H.e H.m (otK2_ok H (by decide) q0 (otP2_ok H.a H.e H.m (otK3_ok H (by decide) (ps_cons (trivial) (ps_nil)))))) rfl
theorem ot1 (H : Hr a e m x 1) : GivesD P 3 (otA a e m i x 1) (.bool true) := by
 cases q0 : Zr a e x 0 with
 | true => exact ot1_0 H q0
 | false =>
  exact ot1_1 H q0
theorem ot2_0 (H : Hr a e m x 2) (q0 : Zr a e x 0 = true) : GivesD P 3 (otA a e m i x 2) (.bool true) :=
 givesD_of_run (E := EOt) (lv := 4) (ds := (.lit :: (fb 6 (lits 4 (.b true :: (lits 5 (tb 6 (lits 4 (.b true :: []))))))))) (v := .bool true) (ps := otP1 a e m i (otK0 a e x 2 0 (otP2 a e m i (otK1 a e x 2 0 ((wakesP []) :: ([])))))) mo (by kernel_rfl) (otP1_ok H.a H.e H.m (otK0_ok H (by decide) q0 (otP2_ok H.a H.e H.m (otK1_ok H (by decide) (ps_cons (trivial) (ps_nil)))))) rfl
def otK4 (a e : Int) (x : Nat → Int) (n j : Nat) (tl : List Prop) : List Prop :=
 (j < n) :: (j < n) :: (i3P [.int .i64 a, .int .i64 e, .int .i64 (x j)]) :: ((plE a e (x j) != 0) = false) :: (j < 1000000) :: ((plE a e (x j) != 0) = false) :: tl
theorem otK4_ok {n j : Nat} {tl : List Prop} (H : Hr a e m x n) (hj : j < n) (q : Zr a e x j = false) (h : ∀ p ∈ tl, p) : ∀ p ∈ otK4 a e x n j tl, p := by
 have hx := H.x j hj
 have hm : j < 1000000 := by have := H.n; omega
 have _u := And.intro hx hm
 have ha := H.a
 have he := H.e
 have _u := And.intro ha he
 exact ps_cons (hj) (ps_cons (hj) (ps_cons (⟨ha, he, hx⟩) (ps_cons (q) (ps_cons (hm) (ps_cons (q) (h))))))
def otK5 (a e : Int) (x : Nat → Int) (n j : Nat) (tl : List Prop) : List Prop :=
 (j < n) :: (j < n) :: (i3P [.int .i64 a, .int .i64 e, .int .i64 (x j)]) :: ((plE a e (x j) != 0) = true) :: tl
theorem otK5_ok {n j : Nat} {tl : List Prop} (H : Hr a e m x n) (hj : j < n) (q : Zr a e x j = true) (h : ∀ p ∈ tl, p) : ∀ p ∈ otK5 a e x n j tl, p := by
 have hx := H.x j hj
 have hm : j < 1000000 := by have := H.n; omega
 have _u := And.intro hx hm
 have ha := H.a
 have he := H.e
 have _u := And.intro ha he
 exact ps_cons (hj) (ps_cons (hj) (ps_cons (⟨ha, he, hx⟩) (ps_cons (q) (h))))
def otK6 (a e : Int) (x : Nat → Int) (n j : Nat) (tl : List Prop) : List Prop :=
 (j < n) :: (j < n) :: (i3P [.int .i64 a, .int .i64 e, .int .i64 (x j)]) :: ((plE a e (x j) != 0) = false) :: (j < 1000000) :: tl
theorem otK6_ok {n j : Nat} {tl : List Prop} (H : Hr a e m x n) (hj : j < n) (q : Zr a e x j = false) (h : ∀ p ∈ tl, p) : ∀ p ∈ otK6 a e x n j tl, p := by
 have hx := H.x j hj
 have hm : j < 1000000 := by have := H.n; omega
 have _u := And.intro hx hm
 have ha := H.a
 have he := H.e
 have _u := And.intro ha he
 exact ps_cons (hj) (ps_cons (hj) (ps_cons (⟨ha, he, hx⟩) (ps_cons (q) (ps_cons (hm) (h)))))
theorem ot2_1 (H : Hr a e m x 2) (q0 : Zr a e x 0 = false) (q1 : Zr a e x 1 = true) : GivesD P 3 (otA a e m i x 2) (.bool true) :=
 givesD_of_run (E := EOt) (lv := 4) (ds := (.lit :: (fb 6 (lits 4 (.b false :: (.lit :: (.lit :: (.b false :: (.lit :: (.lit :: (.b true :: (lits 5 (.b false :: (.lit :: (.lit :: (.lit :: (tb 6 (lits 4 (.b true :: []))))))))))))))))))) (v := .bool true) (ps := otP1 a e m i (otK4 a e x 2 0 (otK5 a e x 2 1 (otK6 a e x 2 0 (otK5 a e x 2 1 (otP2 a e m i (otK1 a e x 2 1 ((wakesP []) :: ([]))))))))) mo (by kernel_rfl) (otP1_ok H.a H.e H.m (otK4_ok H (by decide) q0 (otK5_ok H (by decide) q1 (otK6_ok H (by decide) q0 (otK5_ok H (by decide) q1 (otP2_ok H.a H.e H.m (otK1_ok H (by decide) (ps_cons (trivial) (ps_nil))))))))) rfl
theorem ot2_2 (H : Hr a e m x 2) (q0 : Zr a e x 0 = false) (q1 : Zr a e x 1 = false) : GivesD P 3 (otA a e m i x 2) (.bool true) :=
 givesD_of_run (E := EOt) (lv := 4) (ds := (.lit :: (fb 6 (lits 4 (.b false :: (.lit :: (.lit :: (.b false :: (.lit :: (.lit :: (.b false :: (.lit :: (.lit :: (.b false :: (lits 4 (.b false :: (.lit :: (.lit :: (.lit :: (.b false :: (.lit :: (.lit :: (tb 5 (lits 5 (.b false :: (.lit :: (.lit :: (.lit :: (.b false :: (.lit :: (.lit :: (.lit :: [])))))))))))))))))))))))))))))))) (v := .bool true) (ps := otP1 a e m i (otK4 a e x 2 0 (otK4 a e x 2 1 (otK6 a e x 2 0 (otK6 a e x 2 1 (otP2 a e m i (otK3 a e x 2 0 (otK3 a e x 2 1 ((wakesP []) :: ([])))))))))) mo (by kernel_rfl) (otP1_ok H.a H.e H.m (otK4_ok H (by decide) q0 (otK4_ok H (by decide) q1 (otK6_ok H (by decide) q0 (otK6_ok H (by decide) q1 (otP2_ok H.a H.e H.m (otK3_ok H (by decide) (otK3_ok H (by decide) (ps_cons (trivial) (ps_nil)))))))))) rfl
theorem ot2 (H : Hr a e m x 2) : GivesD P 3 (otA a e m i x 2) (.bool true) := by
 cases q0 : Zr a e x 0 with
 | true => exact ot2_0 H q0
 | false =>
  cases q1 : Zr a e x 1 with
  | true => exact ot2_1 H q0 q1
  | false =>
   exact ot2_2 H q0 q1
theorem ot3_0 (H : Hr a e m x 3) (q0 : Zr a e x 0 = true) : GivesD P 3 (otA a e m i x 3) (.bool true) :=
 givesD_of_run (E := EOt) (lv := 4) (ds := (.lit :: (fb 6 (lits 4 (.b true :: (lits 5 (tb 6 (lits 4 (.b true :: []))))))))) (v := .bool true) (ps := otP1 a e m i (otK0 a e x 3 0 (otP2 a e m i (otK1 a e x 3 0 ((wakesP []) :: ([])))))) mo (by kernel_rfl) (otP1_ok H.a H.e H.m (otK0_ok H (by decide) q0 (otP2_ok H.a H.e H.m (otK1_ok H (by decide) (ps_cons (trivial) (ps_nil)))))) rfl
theorem ot3_1 (H : Hr a e m x 3) (q0 : Zr a e x 0 = false) (q1 : Zr a e x 1 = true) : GivesD P 3 (otA a e m i x 3) (.bool true) :=
 givesD_of_run (E := EOt) (lv := 4) (ds := (.lit :: (fb 6 (lits 4 (.b false :: (.lit :: (.lit :: (.b false :: (.lit :: (.lit :: (.b true :: (lits 5 (.b false :: (.lit :: (.lit :: (.lit :: (tb 6 (lits 4 (.b true :: []))))))))))))))))))) (v := .bool true) (ps := otP1 a e m i (otK4 a e x 3 0 (otK5 a e x 3 1 (otK6 a e x 3 0 (otK5 a e x 3 1 (otP2 a e m i (otK1 a e x 3 1 ((wakesP []) :: ([]))))))))) mo (by kernel_rfl) (otP1_ok H.a H.e H.m (otK4_ok H (by decide) q0 (otK5_ok H (by decide) q1 (otK6_ok H (by decide) q0 (otK5_ok H (by decide) q1 (otP2_ok H.a H.e H.m (otK1_ok H (by decide) (ps_cons (trivial) (ps_nil))))))))) rfl
theorem ot3_2 (H : Hr a e m x 3) (q0 : Zr a e x 0 = false) (q1 : Zr a e x 1 = false) (q2 : Zr a e x 2 = true) : GivesD P 3 (otA a e m i x 3) (.bool true) :=
 givesD_of_run (E := EOt) (lv := 4) (ds := (.lit :: (fb 6 (lits 4 (.b false :: (.lit :: (.lit :: (.b false :: (.lit :: (.lit :: (.b false :: (.lit :: (.lit :: (.b false :: (.lit :: (.lit :: (.b true :: (lits 5 (.b false :: (.lit :: (.lit :: (.lit :: (.b false :: (.lit :: (.lit :: (.lit :: (tb 6 (lits 4 (.b true :: []))))))))))))))))))))))))))))) (v := .bool true) (ps := otP1 a e m i (otK4 a e x 3 0 (otK4 a e x 3 1 (otK5 a e x 3 2 (otK6 a e x 3 0 (otK6 a e x 3 1 (otK5 a e x 3 2 (otP2 a e m i (otK1 a e x 3 2 ((wakesP []) :: ([]))))))))))) mo (by kernel_rfl) (otP1_ok H.a H.e H.m (otK4_ok H (by decide) q0 (otK4_ok H (by decide) q1 (otK5_ok H (by decide) q2 (otK6_ok H (by decide) q0 (otK6_ok H (by decide) q1 (otK5_ok H (by decide) q2 (otP2_ok H.a H.e H.m (otK1_ok H (by decide) (ps_cons (trivial) (ps_nil))))))))))) rfl
theorem ot3_3 (H : Hr a e m x 3) (q0 : Zr a e x 0 = false) (q1 : Zr a e x 1 = false) (q2 : Zr a e x 2 = false) : GivesD P 3 (otA a e m i x 3) (.bool true) :=
 givesD_of_run (E := EOt) (lv := 4) (ds := (.lit :: (fb 6 (lits 4 (.b false :: (.lit :: (.lit :: (.b false :: (.lit :: (.lit :: (.b false :: (.lit :: (.lit :: (.b false :: (.lit :: (.lit :: (.b false :: (.lit :: (.lit :: (.b false :: (lits 4 (.b false :: (.lit :: (.lit :: (.lit :: (.b false :: (.lit :: (.lit :: (.lit :: (.b false :: (.lit :: (.lit :: (tb 5 (lits 5 (.b false :: (.lit :: (.lit :: (.lit :: (.b false :: (.lit :: (.lit :: (.lit :: (.b false :: (.lit :: (.lit :: (.lit :: [])))))))))))))))))))))))))))))))))))))))))))))) (v := .bool true) (ps := otP1 a e m i (otK4 a e x 3 0 (otK4 a e x 3 1 (otK4 a e x 3 2 (otK6 a e x 3 0 (otK6 a e x 3 1 (otK6 a e x 3 2 (otP2 a e m i (otK3 a e x 3 0 (otK3 a e x 3 1 (otK3 a e x 3 2 ((wakesP []) :: ([]))))))))))))) mo (by kernel_rfl) (otP1_ok H.a H.e H.m (otK4_ok H (by decide) q0 (otK4_ok H (by decide) q1 (otK4_ok H (by decide) q2 (otK6_ok H (by decide) q0 (otK6_ok H (by decide) q1 (otK6_ok H (by decide) q2 (otP2_ok H.a H.e H.m (otK3_ok H (by decide) (otK3_ok H (by decide) (otK3_ok H (by decide) (ps_cons (trivial) (ps_nil))))))))))))) rfl
theorem ot3 (H : Hr a e m x 3) : GivesD P 3 (otA a e m i x 3) (.bool true) := by
 cases q0 : Zr a e x 0 with
 | true => exact ot3_0 H q0
 | false =>
  cases q1 : Zr a e x 1 with
  | true => exact ot3_1 H q0 q1
  | false =>
   cases q2 : Zr a e x 2 with
   | true => exact ot3_2 H q0 q1 q2
   | false =>
    exact ot3_3 H q0 q1 q2
theorem ot4_0 (H : Hr a e m x 4) (q0 : Zr a e x 0 = true) : GivesD P 3 (otA a e m i x 4) (.bool true) :=
 givesD_of_run (E := EOt) (lv := 4) (ds := (.lit :: (fb 6 (lits 4 (.b true :: (lits 5 (tb 6 (lits 4 (.b true :: []))))))))) (v := .bool true) (ps := otP1 a e m i (otK0 a e x 4 0 (otP2 a e m i (otK1 a e x 4 0 ((wakesP []) :: ([])))))) mo (by kernel_rfl) (otP1_ok H.a H.e H.m (otK0_ok H (by decide) q0 (otP2_ok H.a H.e H.m (otK1_ok H (by decide) (ps_cons (trivial) (ps_nil)))))) rfl
theorem ot4_1 (H : Hr a e m x 4) (q0 : Zr a e x 0 = false) (q1 : Zr a e x 1 = true) : GivesD P 3 (otA a e m i x 4) (.bool true) :=
 givesD_of_run (E := EOt) (lv := 4) (ds := (.lit :: (fb 6 (lits 4 (.b false :: (.lit :: (.lit :: (.b false :: (.lit :: (.lit :: (.b true :: (lits 5 (.b false :: (.lit :: (.lit :: (.lit :: (tb 6 (lits 4 (.b true :: []))))))))))))))))))) (v := .bool true) (ps := otP1 a e m i (otK4 a e x 4 0 (otK5 a e x 4 1 (otK6 a e x 4 0 (otK5 a e x 4 1 (otP2 a e m i (otK1 a e x 4 1 ((wakesP []) :: ([]))))))))) mo (by kernel_rfl) (otP1_ok H.a H.e H.m (otK4_ok H (by decide) q0 (otK5_ok H (by decide) q1 (otK6_ok H (by decide) q0 (otK5_ok H (by decide) q1 (otP2_ok H.a H.e H.m (otK1_ok H (by decide) (ps_cons (trivial) (ps_nil))))))))) rfl
theorem ot4_2 (H : Hr a e m x 4) (q0 : Zr a e x 0 = false) (q1 : Zr a e x 1 = false) (q2 : Zr a e x 2 = true) : GivesD P 3 (otA a e m i x 4) (.bool true) :=
 givesD_of_run (E := EOt) (lv := 4) (ds := (.lit :: (fb 6 (lits 4 (.b false :: (.lit :: (.lit :: (.b false :: (.lit :: (.lit :: (.b false :: (.lit :: (.lit :: (.b false :: (.lit :: (.lit :: (.b true :: (lits 5 (.b false :: (.lit :: (.lit :: (.lit :: (.b false :: (.lit :: (.lit :: (.lit :: (tb 6 (lits 4 (.b true :: []))))))))))))))))))))))))))))) (v := .bool true) (ps := otP1 a e m i (otK4 a e x 4 0 (otK4 a e x 4 1 (otK5 a e x 4 2 (otK6 a e x 4 0 (otK6 a e x 4 1 (otK5 a e x 4 2 (otP2 a e m i (otK1 a e x 4 2 ((wakesP []) :: ([]))))))))))) mo (by kernel_rfl) (otP1_ok H.a H.e H.m (otK4_ok H (by decide) q0 (otK4_ok H (by decide) q1 (otK5_ok H (by decide) q2 (otK6_ok H (by decide) q0 (otK6_ok H (by decide) q1 (otK5_ok H (by decide) q2 (otP2_ok H.a H.e H.m (otK1_ok H (by decide) (ps_cons (trivial) (ps_nil))))))))))) rfl
theorem ot4_3 (H : Hr a e m x 4) (q0 : Zr a e x 0 = false) (q1 : Zr a e x 1 = false) (q2 : Zr a e x 2 = false) (q3 : Zr a e x 3 = true) : GivesD P 3 (otA a e m i x 4) (.bool true) :=
 givesD_of_run (E := EOt) (lv := 4) (ds := (.lit :: (fb 6 (lits 4 (.b false :: (.lit :: (.lit :: (.b false :: (.lit :: (.lit :: (.b false :: (.lit :: (.lit :: (.b false :: (.lit :: (.lit :: (.b false :: (.lit :: (.lit :: (.b false :: (.lit :: (.lit :: (.b true :: (lits 5 (.b false :: (.lit :: (.lit :: (.lit :: (.b false :: (.lit :: (.lit :: (.lit :: (.b false :: (.lit :: (.lit :: (.lit :: (tb 6 (lits 4 (.b true :: []))))))))))))))))))))))))))))))))))))))) (v := .bool true) (ps := otP1 a e m i (otK4 a e x 4 0 (otK4 a e x 4 1 (otK4 a e x 4 2 (otK5 a e x 4 3 (otK6 a e x 4 0 (otK6 a e x 4 1 (otK6 a e x 4 2 (otK5 a e x 4 3 (otP2 a e m i (otK1 a e x 4 3 ((wakesP []) :: ([]))))))))))))) mo (by kernel_rfl) (otP1_ok H.a H.e H.m (otK4_ok H (by decide) q0 (otK4_ok H (by decide) q1 (otK4_ok H (by decide) q2 (otK5_ok H (by decide) q3 (otK6_ok H (by decide) q0 (otK6_ok H (by decide) q1 (otK6_ok H (by decide) q2 (otK5_ok H (by decide) q3 (otP2_ok H.a H.e H.m (otK1_ok H (by decide) (ps_cons (trivial) (ps_nil))))))))))))) rfl
theorem ot4_4 (H : Hr a e m x 4) (q0 : Zr a e x 0 = false) (q1 : Zr a e x 1 = false) (q2 : Zr a e x 2 = false) (q3 : Zr a e x 3 = false) : GivesD P 3 (otA a e m i x 4) (.bool true) :=
 givesD_of_run (E := EOt) (lv := 4) (ds := (.lit :: (fb 6 (lits 4 (.b false :: (.lit :: (.lit :: (.b false :: (.lit :: (.lit :: (.b false :: (.lit :: (.lit :: (.b false :: (.lit :: (.lit :: (.b false :: (.lit :: (.lit :: (.b false :: (.lit :: (.lit :: (.b false :: (.lit :: (.lit :: (.b false :: (lits 4 (.b false :: (.lit :: (.lit :: (.lit :: (.b false :: (.lit :: (.lit :: (.lit :: (.b false :: (.lit :: (.lit :: (.lit :: (.b false :: (.lit :: (.lit :: (tb 5 (lits 5 (.b false :: (.lit :: (.lit :: (.lit :: (.b false :: (.lit :: (.lit :: (.lit :: (.b false :: (.lit :: (.lit :: (.lit :: (.b false :: (.lit :: (.lit :: (.lit :: [])))))))))))))))))))))))))))))))))))))))))))))))))))))))))))) (v := .bool true) (ps := otP1 a e m i (otK4 a e x 4 0 (otK4 a e x 4 1 (otK4 a e x 4 2 (otK4 a e x 4 3 (otK6 a e x 4 0 (otK6 a e x 4 1 (otK6 a e x 4 2 (otK6 a e x 4 3 (otP2 a e m i (otK3 a e x 4 0 (otK3 a e x 4 1 (otK3 a e x 4 2 (otK3 a e x 4 3 ((wakesP []) :: ([])))))))))))))))) mo (by kernel_rfl) (otP1_ok H.a H.e H.m (otK4_ok H (by decide) q0 (otK4_ok H (by decide) q1 (otK4_ok H (by decide) q2 (otK4_ok H (by decide) q3 (otK6_ok H (by decide) q0 (otK6_ok H (by decide) q1 (otK6_ok H (by decide) q2 (otK6_ok H (by decide) q3 (otP2_ok H.a H.e H.m (otK3_ok H (by decide) (otK3_ok H (by decide) (otK3_ok H (by decide) (otK3_ok H (by decide) (ps_cons (trivial) (ps_nil)))))))))))))))) rfl
theorem ot4 (H : Hr a e m x 4) : GivesD P 3 (otA a e m i x 4) (.bool true) := by
 cases q0 : Zr a e x 0 with
 | true => exact ot4_0 H q0
 | false =>
  cases q1 : Zr a e x 1 with
  | true => exact ot4_1 H q0 q1
  | false =>
   cases q2 : Zr a e x 2 with
   | true => exact ot4_2 H q0 q1 q2
   | false =>
    cases q3 : Zr a e x 3 with
    | true => exact ot4_3 H q0 q1 q2 q3
    | false =>
     exact ot4_4 H q0 q1 q2 q3
theorem ot5_0 (H : Hr a e m x 5) (q0 : Zr a e x 0 = true) : GivesD P 3 (otA a e m i x 5) (.bool true) :=
 givesD_of_run (E := EOt) (lv := 4) (ds := (.lit :: (fb 6 (lits 4 (.b true :: (lits 5 (tb 6 (lits 4 (.b true :: []))))))))) (v := .bool true) (ps := otP1 a e m i (otK0 a e x 5 0 (otP2 a e m i (otK1 a e x 5 0 ((wakesP []) :: ([])))))) mo (by kernel_rfl) (otP1_ok H.a H.e H.m (otK0_ok H (by decide) q0 (otP2_ok H.a H.e H.m (otK1_ok H (by decide) (ps_cons (trivial) (ps_nil)))))) rfl
theorem ot5_1 (H : Hr a e m x 5) (q0 : Zr a e x 0 = false) (q1 : Zr a e x 1 = true) : GivesD P 3 (otA a e m i x 5) (.bool true) :=
 givesD_of_run (E := EOt) (lv := 4) (ds := (.lit :: (fb 6 (lits 4 (.b false :: (.lit :: (.lit :: (.b false :: (.lit :: (.lit :: (.b true :: (lits 5 (.b false :: (.lit :: (.lit :: (.lit :: (tb 6 (lits 4 (.b true :: []))))))))))))))))))) (v := .bool true) (ps := otP1 a e m i (otK4 a e x 5 0 (otK5 a e x 5 1 (otK6 a e x 5 0 (otK5 a e x 5 1 (otP2 a e m i (otK1 a e x 5 1 ((wakesP []) :: ([]))))))))) mo (by kernel_rfl) (otP1_ok H.a H.e H.m (otK4_ok H (by decide) q0 (otK5_ok H (by decide) q1 (otK6_ok H (by decide) q0 (otK5_ok H (by decide) q1 (otP2_ok H.a H.e H.m (otK1_ok H (by decide) (ps_cons (trivial) (ps_nil))))))))) rfl
theorem ot5_2 (H : Hr a e m x 5) (q0 : Zr a e x 0 = false) (q1 : Zr a e x 1 = false) (q2 : Zr a e x 2 = true) : GivesD P 3 (otA a e m i x 5) (.bool true) :=
 givesD_of_run (E := EOt) (lv := 4) (ds := (.lit :: (fb 6 (lits 4 (.b false :: (.lit :: (.lit :: (.b false :: (.lit :: (.lit :: (.b false :: (.lit :: (.lit :: (.b false :: (.lit :: (.lit :: (.b true :: (lits 5 (.b false :: (.lit :: (.lit :: (.lit :: (.b false :: (.lit :: (.lit :: (.lit :: (tb 6 (lits 4 (.b true :: []))))))))))))))))))))))))))))) (v := .bool true) (ps := otP1 a e m i (otK4 a e x 5 0 (otK4 a e x 5 1 (otK5 a e x 5 2 (otK6 a e x 5 0 (otK6 a e x 5 1 (otK5 a e x 5 2 (otP2 a e m i (otK1 a e x 5 2 ((wakesP []) :: ([]))))))))))) mo (by kernel_rfl) (otP1_ok H.a H.e H.m (otK4_ok H (by decide) q0 (otK4_ok H (by decide) q1 (otK5_ok H (by decide) q2 (otK6_ok H (by decide) q0 (otK6_ok H (by decide) q1 (otK5_ok H (by decide) q2 (otP2_ok H.a H.e H.m (otK1_ok H (by decide) (ps_cons (trivial) (ps_nil))))))))))) rfl
theorem ot5_3 (H : Hr a e m x 5) (q0 : Zr a e x 0 = false) (q1 : Zr a e x 1 = false) (q2 : Zr a e x 2 = false) (q3 : Zr a e x 3 = true) : GivesD P 3 (otA a e m i x 5) (.bool true) :=
 givesD_of_run (E := EOt) (lv := 4) (ds := (.lit :: (fb 6 (lits 4 (.b false :: (.lit :: (.lit :: (.b false :: (.lit :: (.lit :: (.b false :: (.lit :: (.lit :: (.b false :: (.lit :: (.lit :: (.b false :: (.lit :: (.lit :: (.b false :: (.lit :: (.lit :: (.b true :: (lits 5 (.b false :: (.lit :: (.lit :: (.lit :: (.b false :: (.lit :: (.lit :: (.lit :: (.b false :: (.lit :: (.lit :: (.lit :: (tb 6 (lits 4 (.b true :: []))))))))))))))))))))))))))))))))))))))) (v := .bool true) (ps := otP1 a e m i (otK4 a e x 5 0 (otK4 a e x 5 1 (otK4 a e x 5 2 (otK5 a e x 5 3 (otK6 a e x 5 0 (otK6 a e x 5 1 (otK6 a e x 5 2 (otK5 a e x 5 3 (otP2 a e m i (otK1 a e x 5 3 ((wakesP []) :: ([]))))))))))))) mo (by kernel_rfl) (otP1_ok H.a H.e H.m (otK4_ok H (by decide) q0 (otK4_ok H (by decide) q1 (otK4_ok H (by decide) q2 (otK5_ok H (by decide) q3 (otK6_ok H (by decide) q0 (otK6_ok H (by decide) q1 (otK6_ok H (by decide) q2 (otK5_ok H (by decide) q3 (otP2_ok H.a H.e H.m (otK1_ok H (by decide) (ps_cons (trivial) (ps_nil))))))))))))) rfl
theorem ot5_4 (H : Hr a e m x 5) (q0 : Zr a e x 0 = false) (q1 : Zr a e x 1 = false) (q2 : Zr a e x 2 = false) (q3 : Zr a e x 3 = false) (q4 : Zr a e x 4 = true) : GivesD P 3 (otA a e m i x 5) (.bool true) :=
 givesD_of_run (E := EOt) (lv := 4) (ds := (.lit :: (fb 6 (lits 4 (.b false :: (.lit :: (.lit :: (.b false :: (.lit :: (.lit :: (.b false :: (.lit :: (.lit :: (.b false :: (.lit :: (.lit :: (.b false :: (.lit :: (.lit :: (.b false :: (.lit :: (.lit :: (.b false :: (.lit :: (.lit :: (.b false :: (.lit :: (.lit :: (.b true :: (lits 5 (.b false :: (.lit :: (.lit :: (.lit :: (.b false :: (.lit :: (.lit :: (.lit :: (.b false :: (.lit :: (.lit :: (.lit :: (.b false :: (.lit :: (.lit :: (.lit :: (tb 6 (lits 4 (.b true :: []))))))))))))))))))))))))))))))))))))))))))))))))) (v := .bool true) (ps := otP1 a e m i (otK4 a e x 5 0 (otK4 a e x 5 1 (otK4 a e x 5 2 (otK4 a e x 5 3 (otK5 a e x 5 4 (otK6 a e x 5 0 (otK6 a e x 5 1 (otK6 a e x 5 2 (otK6 a e x 5 3 (otK5 a e x 5 4 (otP2 a e m i (otK1 a e x 5 4 ((wakesP []) :: ([]))))))))))))))) mo (by kernel_rfl) (otP1_ok H.a H.e H.m (otK4_ok H (by decide) q0 (otK4_ok H (by decide) q1 (otK4_ok H (by decide) q2 (otK4_ok H (by decide) q3 (otK5_ok H (by decide) q4 (otK6_ok H (by decide) q0 (otK6_ok H (by decide) q1 (otK6_ok H (by decide) q2 (otK6_ok H (by decide) q3 (otK5_ok H (by decide) q4 (otP2_ok H.a H.e H.m (otK1_ok H (by decide) (ps_cons (trivial) (ps_nil))))))))))))))) rfl
theorem ot5_5 (H : Hr a e m x 5) (q0 : Zr a e x 0 = false) (q1 : Zr a e x 1 = false) (q2 : Zr a e x 2 = false) (q3 : Zr a e x 3 = false) (q4 : Zr a e x 4 = false) : GivesD P 3 (otA a e m i x 5) (.bool true) :=
 givesD_of_run (E := EOt) (lv := 4) (ds := (.lit :: (fb 6 (lits 4 (.b false :: (.lit :: (.lit :: (.b false :: (.lit :: (.lit :: (.b false :: (.lit :: (.lit :: (.b false :: (.lit :: (.lit :: (.b false :: (.lit :: (.lit :: (.b false :: (.lit :: (.lit :: (.b false :: (.lit :: (.lit :: (.b false :: (.lit :: (.lit :: (.b false :: (.lit :: (.lit :: (.b false :: (lits 4 (.b false :: (.lit :: (.lit :: (.lit :: (.b false :: (.lit :: (.lit :: (.lit :: (.b false :: (.lit :: (.lit :: (.lit :: (.b false :: (.lit :: (.lit :: (.lit :: (.b false :: (.lit :: (.lit :: (tb 5 (lits 5 (.b false :: (.lit :: (.lit :: (.lit :: (.b false :: (.lit :: (.lit :: (.lit :: (.b false :: (.lit :: (.lit :: (.lit :: (.b false :: (.lit :: (.lit :: (.lit :: (.b false :: (.lit :: (.lit :: (.lit :: [])))))))))))))))))))))))))))))))))))))))))))))))))))))))))))))))))))))))))) (v := .bool true) (ps := otP1 a e m i (otK4 a e x 5 0 (otK4 a e x 5 1 (otK4 a e x 5 2 (otK4 a e x 5 3 (otK4 a e x 5 4 (otK6 a e x 5 0 (otK6 a e x 5 1 (otK6 a e x 5 2 (otK6 a e x 5 3 (otK6 a e x 5 4 (otP2 a e m i (otK3 a e x 5 0 (otK3 a e x 5 1 (otK3 a e x 5 2 (otK3 a e x 5 3 (otK3 a e x 5 4 ((wakesP []) :: ([]))))))))))))))))))) mo (by kernel_rfl) (otP1_ok H.a H.e H.m (otK4_ok H (by decide) q0 (otK4_ok H (by decide) q1 (otK4_ok H (by decide) q2 (otK4_ok H (by decide) q3 (otK4_ok H (by decide) q4 (otK6_ok H (by decide) q0 (otK6_ok H (by decide) q1 (otK6_ok H (by decide) q2 (otK6_ok H (by decide) q3 (otK6_ok H (by decide) q4 (otP2_ok H.a H.e H.m (otK3_ok H (by decide) (otK3_ok H (by decide) (otK3_ok H (by decide) (otK3_ok H (by decide) (otK3_ok H (by decide) (ps_cons (trivial) (ps_nil))))))))))))))))))) rfl
theorem ot5 (H : Hr a e m x 5) : GivesD P 3 (otA a e m i x 5) (.bool true) := by
 cases q0 : Zr a e x 0 with
 | true => exact ot5_0 H q0
 | false =>
  cases q1 : Zr a e x 1 with
  | true => exact ot5_1 H q0 q1
  | false =>
   cases q2 : Zr a e x 2 with
   | true => exact ot5_2 H q0 q1 q2
   | false =>
    cases q3 : Zr a e x 3 with
    | true => exact ot5_3 H q0 q1 q2 q3
    | false =>
     cases q4 : Zr a e x 4 with
     | true => exact ot5_4 H q0 q1 q2 q3 q4
     | false =>
      exact ot5_5 H q0 q1 q2 q3 q4
theorem ot6_0 (H : Hr a e m x 6) (q0 : Zr a e x 0 = true) : GivesD P 3 (otA a e m i x 6) (.bool true) :=
 givesD_of_run (E := EOt) (lv := 4) (ds := (.lit :: (fb 6 (lits 4 (.b true :: (lits 5 (tb 6 (lits 4 (.b true :: []))))))))) (v := .bool true) (ps := otP1 a e m i (otK0 a e x 6 0 (otP2 a e m i (otK1 a e x 6 0 ((wakesP []) :: ([])))))) mo (by kernel_rfl) (otP1_ok H.a H.e H.m (otK0_ok H (by decide) q0 (otP2_ok H.a H.e H.m (otK1_ok H (by decide) (ps_cons (trivial) (ps_nil)))))) rfl
theorem ot6_1 (H : Hr a e m x 6) (q0 : Zr a e x 0 = false) (q1 : Zr a e x 1 = true) : GivesD P 3 (otA a e m i x 6) (.bool true) :=
 givesD_of_run (E := EOt) (lv := 4) (ds := (.lit :: (fb 6 (lits 4 (.b false :: (.lit :: (.lit :: (.b false :: (.lit :: (.lit :: (.b true :: (lits 5 (.b false :: (.lit :: (.lit :: (.lit :: (tb 6 (lits 4 (.b true :: []))))))))))))))))))) (v := .bool true) (ps := otP1 a e m i (otK4 a e x 6 0 (otK5 a e x 6 1 (otK6 a e x 6 0 (otK5 a e x 6 1 (otP2 a e m i (otK1 a e x 6 1 ((wakesP []) :: ([]))))))))) mo (by kernel_rfl) (otP1_ok H.a H.e H.m (otK4_ok H (by decide) q0 (otK5_ok H (by decide) q1 (otK6_ok H (by decide) q0 (otK5_ok H (by decide) q1 (otP2_ok H.a H.e H.m (otK1_ok H (by decide) (ps_cons (trivial) (ps_nil))))))))) rfl
theorem ot6_2 (H : Hr a e m x 6) (q0 : Zr a e x 0 = false) (q1 : Zr a e x 1 = false) (q2 : Zr a e x 2 = true) : GivesD P 3 (otA a e m i x 6) (.bool true) :=
 givesD_of_run (E := EOt) (lv := 4) (ds := (.lit :: (fb 6 (lits 4 (.b false :: (.lit :: (.lit :: (.b false :: (.lit :: (.lit :: (.b false :: (.lit :: (.lit :: (.b false :: (.lit :: (.lit :: (.b true :: (lits 5 (.b false :: (.lit :: (.lit :: (.lit :: (.b false :: (.lit :: (.lit :: (.lit :: (tb 6 (lits 4 (.b true :: []))))))))))))))))))))))))))))) (v := .bool true) (ps := otP1 a e m i (otK4 a e x 6 0 (otK4 a e x 6 1 (otK5 a e x 6 2 (otK6 a e x 6 0 (otK6 a e x 6 1 (otK5 a e x 6 2 (otP2 a e m i (otK1 a e x 6 2 ((wakesP []) :: ([]))))))))))) mo (by kernel_rfl) (otP1_ok H.a H.e H.m (otK4_ok H (by decide) q0 (otK4_ok H (by decide) q1 (otK5_ok H (by decide) q2 (otK6_ok H (by decide) q0 (otK6_ok H (by decide) q1 (otK5_ok H (by decide) q2 (otP2_ok H.a H.e H.m (otK1_ok H (by decide) (ps_cons (trivial) (ps_nil))))))))))) rfl
theorem ot6_3 (H : Hr a e m x 6) (q0 : Zr a e x 0 = false) (q1 : Zr a e x 1 = false) (q2 : Zr a e x 2 = false) (q3 : Zr a e x 3 = true) : GivesD P 3 (otA a e m i x 6) (.bool true) :=
 givesD_of_run (E := EOt) (lv := 4) (ds := (.lit :: (fb 6 (lits 4 (.b false :: (.lit :: (.lit :: (.b false :: (.lit :: (.lit :: (.b false :: (.lit :: (.lit :: (.b false :: (.lit :: (.lit :: (.b false :: (.lit :: (.lit :: (.b false :: (.lit :: (.lit :: (.b true :: (lits 5 (.b false :: (.lit :: (.lit :: (.lit :: (.b false :: (.lit :: (.lit :: (.lit :: (.b false :: (.lit :: (.lit :: (.lit :: (tb 6 (lits 4 (.b true :: []))))))))))))))))))))))))))))))))))))))) (v := .bool true) (ps := otP1 a e m i (otK4 a e x 6 0 (otK4 a e x 6 1 (otK4 a e x 6 2 (otK5 a e x 6 3 (otK6 a e x 6 0 (otK6 a e x 6 1 (otK6 a e x 6 2 (otK5 a e x 6 3 (otP2 a e m i (otK1 a e x 6 3 ((wakesP []) :: ([]))))))))))))) mo (by kernel_rfl) (otP1_ok H.a H.e H.m (otK4_ok H (by decide) q0 (otK4_ok H (by decide) q1 (otK4_ok H (by decide) q2 (otK5_ok H (by decide) q3 (otK6_ok H (by decide) q0 (otK6_ok H (by decide) q1 (otK6_ok H (by decide) q2 (otK5_ok H (by decide) q3 (otP2_ok H.a H.e H.m (otK1_ok H (by decide) (ps_cons (trivial) (ps_nil))))))))))))) rfl
theorem ot6_4 (H : Hr a e m x 6) (q0 : Zr a e x 0 = false) (q1 : Zr a e x 1 = false) (q2 : Zr a e x 2 = false) (q3 : Zr a e x 3 = false) (q4 : Zr a e x 4 = true) : GivesD P 3 (otA a e m i x 6) (.bool true) :=
 givesD_of_run (E := EOt) (lv := 4) (ds := (.lit :: (fb 6 (lits 4 (.b false :: (.lit :: (.lit :: (.b false :: (.lit :: (.lit :: (.b false :: (.lit :: (.lit :: (.b false :: (.lit :: (.lit :: (.b false :: (.lit :: (.lit :: (.b false :: (.lit :: (.lit :: (.b false :: (.lit :: (.lit :: (.b false :: (.lit :: (.lit :: (.b true :: (lits 5 (.b false :: (.lit :: (.lit :: (.lit :: (.b false :: (.lit :: (.lit :: (.lit :: (.b false :: (.lit :: (.lit :: (.lit :: (.b false :: (.lit :: (.lit :: (.lit :: (tb 6 (lits 4 (.b true :: []))))))))))))))))))))))))))))))))))))))))))))))))) (v := .bool true) (ps := otP1 a e m i (otK4 a e x 6 0 (otK4 a e x 6 1 (otK4 a e x 6 2 (otK4 a e x 6 3 (otK5 a e x 6 4 (otK6 a e x 6 0 (otK6 a e x 6 1 (otK6 a e x 6 2 (otK6 a e x 6 3 (otK5 a e x 6 4 (otP2 a e m i (otK1 a e x 6 4 ((wakesP []) :: ([]))))))))))))))) mo (by kernel_rfl) (otP1_ok H.a H.e H.m (otK4_ok H (by decide) q0 (otK4_ok H (by decide) q1 (otK4_ok H (by decide) q2 (otK4_ok H (by decide) q3 (otK5_ok H (by decide) q4 (otK6_ok H (by decide) q0 (otK6_ok H (by decide) q1 (otK6_ok H (by decide) q2 (otK6_ok H (by decide) q3 (otK5_ok H (by decide) q4 (otP2_ok H.a H.e H.m (otK1_ok H (by decide) (ps_cons (trivial) (ps_nil))))))))))))))) rfl
theorem ot6_5 (H : Hr a e m x 6) (q0 : Zr a e x 0 = false) (q1 : Zr a e x 1 = false) (q2 : Zr a e x 2 = false) (q3 : Zr a e x 3 = false) (q4 : Zr a e x 4 = false) (q5 : Zr a e x 5 = true) : GivesD P 3 (otA a e m i x 6) (.bool true) :=
 givesD_of_run (E := EOt) (lv := 4) (ds := (.lit :: (fb 6 (lits 4 (.b false :: (.lit :: (.lit :: (.b false :: (.lit :: (.lit :: (.b false :: (.lit :: (.lit :: (.b false :: (.lit :: (.lit :: (.b false :: (.lit :: (.lit :: (.b false :: (.lit :: (.lit :: (.b false :: (.lit :: (.lit :: (.b false :: (.lit :: (.lit :: (.b false :: (.lit :: (.lit :: (.b false :: (.lit :: (.lit :: (.b true :: (lits 5 (.b false :: (.lit :: (.lit :: (.lit :: (.b false :: (.lit :: (.lit :: (.lit :: (.b false :: (.lit :: (.lit :: (.lit :: (.b false :: (.lit :: (.lit :: (.lit :: (.b false :: (.lit :: (.lit :: (.lit :: (tb 6 (lits 4 (.b true :: []))))))))))))))))))))))))))))))))))))))))))))))))))))))))))) (v := .bool true) (ps := otP1 a e m i (otK4 a e x 6 0 (otK4 a e x 6 1 (otK4 a e x 6 2 (otK4 a e x 6 3 (otK4 a e x 6 4 (otK5 a e x 6 5 (otK6 a e x 6 0 (otK6 a e x 6 1 (otK6 a e x 6 2 (otK6 a e x 6 3 (otK6 a e x 6 4 (otK5 a e x 6 5 (otP2 a e m i (otK1 a e x 6 5 ((wakesP []) :: ([]))))))))))))))))) mo (by kernel_rfl) (otP1_ok H.a H.e H.m (otK4_ok H (by decide) q0 (otK4_ok H (by decide) q1 (otK4_ok H (by decide) q2 (otK4_ok H (by decide) q3 (otK4_ok H (by decide) q4 (otK5_ok H (by decide) q5 (otK6_ok H (by decide) q0 (otK6_ok H (by decide) q1 (otK6_ok H (by decide) q2 (otK6_ok H (by decide) q3 (otK6_ok H (by decide) q4 (otK5_ok H (by decide) q5 (otP2_ok H.a H.e H.m (otK1_ok H (by decide) (ps_cons (trivial) (ps_nil))))))))))))))))) rfl
theorem ot6_6 (H : Hr a e m x 6) (q0 : Zr a e x 0 = false) (q1 : Zr a e x 1 = false) (q2 : Zr a e x 2 = false) (q3 : Zr a e x 3 = false) (q4 : Zr a e x 4 = false) (q5 : Zr a e x 5 = false) : GivesD P 3 (otA a e m i x 6) (.bool true) :=
 givesD_of_run (E := EOt) (lv := 4) (ds := (.lit :: (fb 6 (lits 4 (.b false :: (.lit :: (.lit :: (.b false :: (.lit :: (.lit :: (.b false :: (.lit :: (.lit :: (.b false :: (.lit :: (.lit :: (.b false :: (.lit :: (.lit :: (.b false :: (.lit :: (.lit :: (.b false :: (.lit :: (.lit :: (.b false :: (.lit :: (.lit :: (.b false :: (.lit :: (.lit :: (.b false :: (.lit :: (.lit :: (.b false :: (.lit :: (.lit :: (.b false :: (lits 4 (.b false :: (.lit :: (.lit :: (.lit :: (.b false :: (.lit :: (.lit :: (.lit :: (.b false :: (.lit :: (.lit :: (.lit :: (.b false :: (.lit :: (.lit :: (.lit :: (.b false :: (.lit :: (.lit :: (.lit :: (.b false :: (.lit :: (.lit :: (tb 5 (lits 5 (.b false :: (.lit :: (.lit :: (.lit :: (.b false :: (.lit :: (.lit :: (.lit :: (.b false :: (.lit :: (.lit :: (.lit :: (.b false :: (.lit :: (.lit :: (.lit :: (.b false :: (.lit :: (.lit :: (.lit :: (.b false :: (.lit :: (.lit :: (.lit :: [])))))))))))))))))))))))))))))))))))))))))))))))))))))))))))))))))))))))))))))))))))))))) (v := .bool true) (ps := otP1 a e m i (otK4 a e x 6 0 (otK4 a e x 6 1 (otK4 a e x 6 2 (otK4 a e x 6 3 (otK4 a e x 6 4 (otK4 a e x 6 5 (otK6 a e x 6 0 (otK6 a e x 6 1 (otK6 a e x 6 2 (otK6 a e x 6 3 (otK6 a e x 6 4 (otK6 a e x 6 5 (otP2 a e m i (otK3 a e x 6 0 (otK3 a e x 6 1 (otK3 a e x 6 2 (otK3 a e x 6 3 (otK3 a e x 6 4 (otK3 a e x 6 5 ((wakesP []) :: ([])))))))))))))))))))))) mo (by kernel_rfl) (otP1_ok H.a H.e H.m (otK4_ok H (by decide) q0 (otK4_ok H (by decide) q1 (otK4_ok H (by decide) q2 (otK4_ok H (by decide) q3 (otK4_ok H (by decide) q4 (otK4_ok H (by decide) q5 (otK6_ok H (by decide) q0 (otK6_ok H (by decide) q1 (otK6_ok H (by decide) q2 (otK6_ok H (by decide) q3 (otK6_ok H (by decide) q4 (otK6_ok H (by decide) q5 (otP2_ok H.a H.e H.m (otK3_ok H (by decide) (otK3_ok H (by decide) (otK3_ok H (by decide) (otK3_ok H (by decide) (otK3_ok H (by decide) (otK3_ok H (by decide) (ps_cons (trivial) (ps_nil)))))))))))))))))))))) rfl
theorem ot6 (H : Hr a e m x 6) : GivesD P 3 (otA a e m i x 6) (.bool true) := by
 cases q0 : Zr a e x 0 with
 | true => exact ot6_0 H q0
 | false =>
  cases q1 : Zr a e x 1 with
  | true => exact ot6_1 H q0 q1
  | false =>
   cases q2 : Zr a e x 2 with
   | true => exact ot6_2 H q0 q1 q2
   | false =>
    cases q3 : Zr a e x 3 with
    | true => exact ot6_3 H q0 q1 q2 q3
    | false =>
     cases q4 : Zr a e x 4 with
     | true => exact ot6_4 H q0 q1 q2 q3 q4
     | false =>
      cases q5 : Zr a e x 5 with
      | true => exact ot6_5 H q0 q1 q2 q3 q4 q5
      | false =>
       exact ot6_6 H q0 q1 q2 q3 q4 q5
end
theorem otN_0_leaf (a e m : Int) (i : Iv) (ha : I64 a) (he : I64 e) (hm : I64 m) (q0 : (((xI a e m).lo == (xI a e m).lo) && (((xI a e m).hi == (xI a e m).hi) && (((xI a e m).bad) == ((xI a e m).bad)))) = true) (q1 : (((yI a e m).lo == (yI a e m).lo) && (((yI a e m).hi == (yI a e m).hi) && (((yI a e m).bad) == ((yI a e m).bad)))) = true) (q2 : (plE a e m != plE a e m) = false) (q3 : ((atX a e m == atX a e m) && ((atY a e m == atY a e m) && true)) = true) (q4 : (atR a e m != atR a e m) = false) (q5 : (((smI e).lo == (smI e).lo) && (((smI e).hi == (smI e).hi) && (((smI e).bad) == ((smI e).bad)))) = true) (q6 : (smE e == smE e) = true) (q7 : (whN i == whN i) = true) (q8 : (whR i == whR i) = true) (q9 : ((fineL [i]) == (fineL [i])) = true) : GivesD P 3 [.v (.int .i64 a), .v (.int .i64 e), .v (.int .i64 m), .v (I i), .v (.slice none 0 0)] (.bool true) := by
 have _u := And.intro ha (And.intro he hm)
 refine givesD_of_run (E := EOt) (lv := 3) (ds := (.lit :: (.b false :: (.b false :: (.b false :: (.b false :: (.b false :: (.b false :: (lits 5 (.b true :: (.b true :: (.b true :: (.b true :: (.b true :: [])))))))))))))) (v := .bool true) (ps := [i3P [.int .i64 a, .int .i64 e, .int .i64 m], i3P [.int .i64 a, .int .i64 e, .int .i64 m], i3P [.int .i64 a, .int .i64 e, .int .i64 m], i3P [.int .i64 a, .int .i64 e, .int .i64 m], (!(((xI a e m).lo == (xI a e m).lo) && (((xI a e m).hi == (xI a e m).hi) && (((xI a e m).bad) == ((xI a e m).bad))))) = false, (!(((yI a e m).lo == (yI a e m).lo) && (((yI a e m).hi == (yI a e m).hi) && (((yI a e m).bad) == ((yI a e m).bad))))) = false, (plE a e m != plE a e m) = false, (!((atX a e m == atX a e m) && ((atY a e m == atY a e m) && true))) = false, (atR a e m != atR a e m) = false, (plE a e m != plE a e m) = false, nP1 [.int .i64 e], nP1 [.int .i64 e], iP1 [I i], iP1 [I i], (((smI e).lo == (smI e).lo) && (((smI e).hi == (smI e).hi) && (((smI e).bad) == ((smI e).bad)))) = true, (smE e == smE e) = true, (whN i == whN i) = true, (whR i == whR i) = true, ((fineL [i]) == (fineL [i])) = true, wakesP []]) mo (by kernel_rfl) (ps_cons ⟨ha, he, hm⟩ (ps_cons ⟨ha, he, hm⟩ (ps_cons ⟨ha, he, hm⟩ (ps_cons ⟨ha, he, hm⟩ (ps_cons (neg_f q0) (ps_cons (neg_f q1) (ps_cons q2 (ps_cons (neg_f q3) (ps_cons q4 (ps_cons q2 (ps_cons he (ps_cons he (ps_cons ⟨_, rfl⟩ (ps_cons ⟨_, rfl⟩ (ps_cons q5 (ps_cons q6 (ps_cons q7 (ps_cons q8 (ps_cons q9 (ps_cons trivial ps_nil)))))))))))))))))))) ?_
 rfl
theorem ot_nil (a e m : Int) (i : Iv) (ha : I64 a) (he : I64 e) (hm : I64 m) : GivesD P 3 [.v (.int .i64 a), .v (.int .i64 e), .v (.int .i64 m), .v (I i), .v (.slice none 0 0)] (.bool true) := by
 have q0 : (((xI a e m).lo == (xI a e m).lo) && (((xI a e m).hi == (xI a e m).hi) && (((xI a e m).bad) == ((xI a e m).bad)))) = true := (by simp)
 have q1 : (((yI a e m).lo == (yI a e m).lo) && (((yI a e m).hi == (yI a e m).hi) && (((yI a e m).bad) == ((yI a e m).bad)))) = true := (by simp)
 have q2 : (plE a e m != plE a e m) = false := (by simp)
 have q3 : ((atX a e m == atX a e m) && ((atY a e m == atY a e m) && true)) = true := (by simp)
 have q4 : (atR a e m != atR a e m) = false := (by simp)
 have q5 : (((smI e).lo == (smI e).lo) && (((smI e).hi == (smI e).hi) && (((smI e).bad) == ((smI e).bad)))) = true := (by simp)
 have q6 : (smE e == smE e) = true := (by simp)
 have q7 : (whN i == whN i) = true := (by simp)
 have q8 : (whR i == whR i) = true := (by simp)
 have q9 : ((fineL [i]) == (fineL [i])) = true := (by simp)
 exact otN_0_leaf a e m i ha he hm q0 q1 q2 q3 q4 q5 q6 q7 q8 q9
theorem ot_run (a e m : Int) (i : Iv) (n : Nat) (x : Nat → Int) : runD P EOt 1 3 [.v (.int .i64 a), .v (.int .i64 e), .v (.int .i64 m), .v (I i), .row ⟨3, 1, n, fun j => .int .i64 (x j), false⟩] (.b true :: []) = some (.bool true, [(decide (((n : Nat) : Int) > 6)) = true, wakesP []]) := by kernel_rfl
theorem ot_more (a e m : Int) (i : Iv) (n : Nat) (x : Nat → Int) (hn : 6 < n) : GivesD P 3 [.v (.int .i64 a), .v (.int .i64 e), .v (.int .i64 m), .v (I i), .row ⟨3, 1, n, fun j => .int .i64 (x j), false⟩] (.bool true) :=
 givesD_of_run mo (ot_run a e m i n x) (ps_cons (decide_eq_true (by omega)) (ps_cons trivial ps_nil)) rfl
theorem OrbitTells_all (a e m : Int) (i : Iv) (n : Nat) (x : Nat → Int) (ha : I64 a) (he : I64 e) (hm : I64 m) (hx : ∀ j, j < n → I64 (x j)) : GivesD P 3 [.v (.int .i64 a), .v (.int .i64 e), .v (.int .i64 m), .v (I i), .row ⟨3, 1, n, fun j => .int .i64 (x j), false⟩] (.bool true) := by
 rcases Nat.lt_or_ge 6 n with h | h
 · exact ot_more a e m i n x h
 · have h7 : n = 0 ∨ n = 1 ∨ n = 2 ∨ n = 3 ∨ n = 4 ∨ n = 5 ∨ n = 6 := by omega
   rcases h7 with rfl | rfl | rfl | rfl | rfl | rfl | rfl
   · exact ot0 ⟨ha, he, hm, hx, by decide⟩
   · exact ot1 ⟨ha, he, hm, hx, by decide⟩
   · exact ot2 ⟨ha, he, hm, hx, by decide⟩
   · exact ot3 ⟨ha, he, hm, hx, by decide⟩
   · exact ot4 ⟨ha, he, hm, hx, by decide⟩
   · exact ot5 ⟨ha, he, hm, hx, by decide⟩
   · exact ot6 ⟨ha, he, hm, hx, by decide⟩
end Go.Or
