/-
  Chapter 21: what OrbitEllipse and OrbitEnds say (plain). Printed by orC.py.
-/
import Derived.Test.YthadbpnapbmppaaGreatDoorOrF
set_option maxRecDepth 100000
namespace Go.Or
open Go Go.RowKit Go.Sx Go.Nm Go.Wd Go.Qt Go.Iv Go.An Go.Wv Go.Nv Go.Ke Go.Proofs
structure Bx (a e m : Int) : Prop where
  xl : -534802455592960 ≤ (xI a e m).lo
  xh : (xI a e m).hi ≤ 281474976710656
  yl : -1048576000 ≤ (yI a e m).lo
  yh : (yI a e m).hi ≤ 281474976710656
  wx : (xI a e m).hi - (xI a e m).lo ≤ 1073741824
  wy : (yI a e m).hi - (yI a e m).lo ≤ 1073741824
  al : -(1073741824 * a) - a * e ≤ (xI a e m).lo
  ah : (xI a e m).hi ≤ 1073741824 * a
  bh : (yI a e m).hi ≤ 1073741824 * a
theorem bx {a e m : Int} (P : Pl a e m) : Bx a e m := by
  have a1 := P.a1
  have a2 := P.a2
  have e1 := P.e1
  have e2 := P.e2
  have cl := P.cb.l
  have ch := P.cb.h
  have cw := P.cw
  have th := P.tb.h
  have tl := P.tl
  have tw := P.tw
  have q1 := Int.mul_le_mul_of_nonneg_right (show -2040109465 ≤ (waveI true (soI m e 40)).lo - e by omega) (show 0 ≤ a by omega)
  have q2 := Int.mul_le_mul_of_nonneg_right (show (waveI true (soI m e 40)).hi - e ≤ 1073741824 by omega) (show 0 ≤ a by omega)
  have q3 := Int.mul_le_mul_of_nonneg_right (show (waveI true (soI m e 40)).hi - (waveI true (soI m e 40)).lo ≤ 1263 from cw) (show 0 ≤ a by omega)
  have q4 := Int.mul_le_mul_of_nonneg_right (show -4000 ≤ (tE e (soI m e 40)).lo from tl) (show 0 ≤ a by omega)
  have q5 := Int.mul_le_mul_of_nonneg_right (show (tE e (soI m e 40)).hi ≤ 1073741824 from th) (show 0 ≤ a by omega)
  have q6 := Int.mul_le_mul_of_nonneg_right (show (tE e (soI m e 40)).hi - (tE e (soI m e 40)).lo ≤ 1267 from tw) (show 0 ≤ a by omega)
  have q7 := Int.mul_le_mul_of_nonneg_right (show -1073741824 - e ≤ (waveI true (soI m e 40)).lo - e by omega) (show 0 ≤ a by omega)
  have m1 : ((waveI true (soI m e 40)).hi - (waveI true (soI m e 40)).lo) * a = ((waveI true (soI m e 40)).hi - e) * a - ((waveI true (soI m e 40)).lo - e) * a := by grind
  have m2 : ((tE e (soI m e 40)).hi - (tE e (soI m e 40)).lo) * a = (tE e (soI m e 40)).hi * a - (tE e (soI m e 40)).lo * a := by grind
  have m3 : (-1073741824 - e) * a = -(1073741824 * a) - a * e := by grind
  rw [m1] at q3
  rw [m2] at q6
  rw [m3] at q7
  refine ⟨?_, ?_, ?_, ?_, ?_, ?_, ?_, ?_, ?_⟩
  · rw [P.x]; show _ ≤ ((waveI true (soI m e 40)).lo - e) * a; omega
  · rw [P.x]; show ((waveI true (soI m e 40)).hi - e) * a ≤ _; omega
  · rw [P.y]; show _ ≤ (tE e (soI m e 40)).lo * a; omega
  · rw [P.y]; show (tE e (soI m e 40)).hi * a ≤ _; omega
  · rw [P.x]; show ((waveI true (soI m e 40)).hi - e) * a - ((waveI true (soI m e 40)).lo - e) * a ≤ _; omega
  · rw [P.y]; show (tE e (soI m e 40)).hi * a - (tE e (soI m e 40)).lo * a ≤ _; omega
  · rw [P.x]; exact q7
  · rw [P.x]; show ((waveI true (soI m e 40)).hi - e) * a ≤ _; omega
  · rw [P.y]; show (tE e (soI m e 40)).hi * a ≤ _; omega
structure At3 (a e m : Int) : Prop where
  x : atX a e m = whN (xI a e m)
  y : atY a e m = whN (yI a e m)
  r : atR a e m = mx (mx 0 (whR (xI a e m))) (whR (yI a e m))
theorem at3 {a e m : Int} (P : Pl a e m) : At3 a e m := by
  refine ⟨?_, ?_, ?_⟩
  · unfold atX; rw [P.ee]; rfl
  · unfold atY; rw [P.ee]; rfl
  · unfold atR; rw [P.ee]; rfl
theorem mx3 {u v : Int} (hu : 0 ≤ u) : u ≤ mx (mx 0 u) v ∧ v ≤ mx (mx 0 u) v ∧ 0 ≤ mx (mx 0 u) v ∧ (u ≤ 1 → v ≤ 1 → mx (mx 0 u) v ≤ 1) := by
  unfold mx
  split <;> split <;> omega
structure Oe (a e m : Int) : Prop where
  e0 : (plE a e m != 0) = false
  f : fineL [xI a e m, yI a e m] = true
  h : holdsI (addI (mulI (addI (partI (xI a e m) 1 a) (pointI e)) (addI (partI (xI a e m) 1 a) (pointI e))) (quotI (mulI (partI (yI a e m) 1 a) (partI (yI a e m) 1 a)) (subI (ofI 1) (squareI (pointI e))))) (ofI 1) = true
  r0 : ¬ atR a e m < 0
  r1 : ¬ atR a e m > 1
  x0 : atX a e m ≥ -1048576
  x1 : atX a e m ≤ 1048576
  y0 : atY a e m ≥ -1048576
  y1 : atY a e m ≤ 1048576
  xa : IntKind.i64.wrap ((IntKind.i64.wrap (atX a e m - (atR a e m))) * 1073741824) ≤ (xI a e m).lo
  xb : (xI a e m).hi ≤ IntKind.i64.wrap ((IntKind.i64.wrap (atX a e m + (atR a e m))) * 1073741824)
  ya : IntKind.i64.wrap ((IntKind.i64.wrap (atY a e m - (atR a e m))) * 1073741824) ≤ (yI a e m).lo
  yb : (yI a e m).hi ≤ IntKind.i64.wrap ((IntKind.i64.wrap (atY a e m + (atR a e m))) * 1073741824)
theorem oe {a e m : Int} (h : plO a e m = true) : Oe a e m := by
  have P := pl h
  have A := at3 P
  have B := bx P
  have b1 := B.xl
  have b2 := B.xh
  have b3 := B.yl
  have b4 := B.yh
  have X := wh P.fx
  have Y := wh P.fy
  have xl := X.l
  have xu := X.u
  have yl := Y.l
  have yu := Y.u
  have rx := reach1 P.fx B.wx
  have ry := reach1 P.fy B.wy
  have x0 := X.r0
  have y0 := Y.r0
  have M := mx3 (v := whR (yI a e m)) x0
  obtain ⟨m1, m2, m3, m4⟩ := M
  have m4 := m4 rx ry
  rw [← A.r] at m1 m2 m3 m4
  have x1 := X.r1
  have x2 := X.r2
  have y1 := Y.r1
  have y2 := Y.r2
  have fx := fine_iff.1 P.fx
  have fy := fine_iff.1 P.fy
  have nx : -1048576 ≤ atX a e m ∧ atX a e m ≤ 1048576 := by rw [A.x]; omega
  have ny : -1048576 ≤ atY a e m ∧ atY a e m ≤ 1048576 := by rw [A.y]; omega
  rw [← A.x] at xl xu x1 x2
  rw [← A.y] at yl yu y1 y2
  have w1 : ∀ n, -1048576 ≤ n ∧ n ≤ 1048576 → IntKind.i64.wrap ((IntKind.i64.wrap (n - (atR a e m))) * 1073741824) = (n - atR a e m) * 1073741824 := fun n hn => by
    rw [Iv.wr (n := n - atR a e m) (by omega) (by omega), Iv.wr (by omega) (by omega)]
  have w2 : ∀ n, -1048576 ≤ n ∧ n ≤ 1048576 → IntKind.i64.wrap ((IntKind.i64.wrap (n + (atR a e m))) * 1073741824) = (n + atR a e m) * 1073741824 := fun n hn => by
    rw [Iv.wr (n := n + atR a e m) (by omega) (by omega), Iv.wr (by omega) (by omega)]
  refine ⟨by rw [P.ee]; rfl, fine2.2 ⟨P.fx, P.fy⟩, ?_, by omega, by omega, nx.1, nx.2, ny.1, ny.2, ?_, ?_, ?_, ?_⟩
  · rw [P.px, P.py, P.cx]; exact (el P.e1 P.e2 P.w).h
  · rw [w1 _ nx]; omega
  · rw [w2 _ nx]; omega
  · rw [w1 _ ny]; omega
  · rw [w2 _ ny]; omega
theorem oe_no {a e m : Int} (h : plO a e m = false) : plE a e m = 2 ∧ (xI a e m).bad = true ∧ (yI a e m).bad = true := by
  unfold plE xI yI; rw [h]; exact ⟨rfl, rfl, rfl⟩
theorem cos_0 : sR true (xr 0) = 1 := by decide +kernel
structure On (a e m : Int) : Prop where
  e0 : (plE a e 0 != 0) = false
  e1 : (plE a e m != 0) = false
  e2 : (plE a 0 m != 0) = false
  x : holdsI (xI a e 0) (partI (pointI (IntKind.i64.wrap (1073741824 - e))) a 1) = true
  y : holdsI (yI a e 0) (pointI 0) = true
  x1 : atX a e m ≤ IntKind.i64.wrap (IntKind.i64.wrap (a + (IntKind.i64.wrap ((IntKind.i64.wrap (a * e)).tdiv 1073741824))) + 2)
  x2 : atX a e m ≥ IntKind.i64.wrap (0 - (IntKind.i64.wrap (IntKind.i64.wrap (a + (IntKind.i64.wrap ((IntKind.i64.wrap (a * e)).tdiv 1073741824))) + 2)))
  y1 : atY a e m ≤ IntKind.i64.wrap (IntKind.i64.wrap (a + (IntKind.i64.wrap ((IntKind.i64.wrap (a * e)).tdiv 1073741824))) + 2)
  y2 : atY a e m ≥ -1
  c : holdsI (addI (mulI (partI (xI a 0 m) 1 a) (partI (xI a 0 m) 1 a)) (mulI (partI (yI a 0 m) 1 a) (partI (yI a 0 m) 1 a))) (ofI 1) = true
theorem on {a e m : Int} (h : plO a e m = true) : On a e m := by
  obtain ⟨a1, a2, b⟩ := plO_iff.1 h
  obtain ⟨n1, n2, e1, e2⟩ := mB_iff.1 b
  have h0 : plO a e 0 = true := plO_iff.2 ⟨a1, a2, mB_0 b⟩
  have hc : plO a 0 m = true := plO_iff.2 ⟨a1, a2, mB_iff.2 ⟨n1, n2, by omega, by omega⟩⟩
  have P := pl h
  have Z := pl h0
  have C := pl hc
  have A := at3 P
  have B := bx P
  have R := (so40 Z.b).i
  have ng := nought e1 e2
  have z1 : (soI 0 e 40).lo ≤ 0 := by rw [R]; show (hv 0 e (-1) 31).1 ≤ 0; omega
  have z2 : 0 ≤ (soI 0 e 40).hi := by rw [R]; show 0 ≤ (hv 0 e 1 31).1; omega
  have wc := wave_facts true Z.w
  have ws := wave_facts false Z.w
  have nc := wc.near 0 z1 z2
  have ns := ws.near 0 z1 z2
  rw [cos_0] at nc
  rw [sR_zero] at ns
  have co : ((1073741824 : Int) : Rat) = 1073741824 := rfl
  have c0 : ((0 : Int) : Rat) = 0 := rfl
  have hi1 : 1073741824 ≤ (waveI true (soI 0 e 40)).hi := int_le (t := 1 / 2) (by rw [co]; grind) (by grind)
  have s1 : (waveI false (soI 0 e 40)).lo ≤ 0 := int_le (t := 1 / 2) (by rw [c0]; grind) (by grind)
  have s2 : 0 ≤ (waveI false (soI 0 e 40)).hi := int_le (t := 1 / 2) (by rw [c0]; grind) (by grind)
  have lo1 := wc.h1
  have cfi := fine_iff.1 wc.f
  have we : IntKind.i64.wrap (1073741824 - e) = 1073741824 - e := Iv.wr (by omega) (by omega)
  have pe := hd_point (n := 1073741824 - e) (by omega) (by omega)
  have i1 : I64 (1 : Int) := by unfold I64; omega
  have ia : I64 a := by unfold I64; omega
  have g1 := Int.mul_le_mul_of_nonneg_right (show (0 : Int) ≤ 1073741824 - e by omega) (show 0 ≤ a by omega)
  have g2 := Int.mul_le_mul_of_nonneg_right (show 1073741824 - e ≤ 1073741824 by omega) (show 0 ≤ a by omega)
  have F := part_exact (x := pointI (1073741824 - e)) (n := a) (d := 1) (L := (1073741824 - e) * a) (H := (1073741824 - e) * a) pe.2 ia i1 (by decide) (by rw [pe.1, Int.mul_one]) (by rw [pe.1, Int.mul_one]) (by omega) (by omega) (Int.le_refl _)
  have m1 := Int.mul_le_mul_of_nonneg_right (show (waveI true (soI 0 e 40)).lo - e ≤ 1073741824 - e by omega) (show 0 ≤ a by omega)
  have m2 := Int.mul_le_mul_of_nonneg_right (show 1073741824 - e ≤ (waveI true (soI 0 e 40)).hi - e by omega) (show 0 ≤ a by omega)
  have p0 := hd_point (n := 0) (by omega) (by omega)
  have X := wh P.fx
  have Y := wh P.fy
  have xl := X.l
  have xu := X.u
  have yl := Y.l
  have yu := Y.u
  have al := B.al
  have ah := B.ah
  have bh := B.bh
  have byl := B.yl
  have fx := fine_iff.1 P.fx
  have fy := fine_iff.1 P.fy
  have ae0 : 0 ≤ a * e := Int.mul_nonneg (by omega) e1
  have ae1 : a * e ≤ 262144 * 966367641 := Int.mul_le_mul a2 e2 e1 (by omega)
  have most : IntKind.i64.wrap (IntKind.i64.wrap (a + (IntKind.i64.wrap ((IntKind.i64.wrap (a * e)).tdiv 1073741824))) + 2) = a + a * e / 1073741824 + 2 := by
    rw [Iv.wr (n := a * e) (by omega) (by omega), Int.tdiv_eq_ediv_of_nonneg ae0, Iv.wr (n := a * e / 1073741824) (by omega) (by omega), Iv.wr (n := a + a * e / 1073741824) (by omega) (by omega), Iv.wr (by omega) (by omega)]
  have most2 : IntKind.i64.wrap (0 - (IntKind.i64.wrap (IntKind.i64.wrap (a + (IntKind.i64.wrap ((IntKind.i64.wrap (a * e)).tdiv 1073741824))) + 2))) = -(a + a * e / 1073741824 + 2) := by
    rw [most, Iv.wr (by omega) (by omega)]; omega
  refine ⟨by rw [Z.ee]; rfl, by rw [P.ee]; rfl, by rw [C.ee]; rfl, ?_, ?_, ?_, ?_, ?_, ?_, ?_⟩
  · rw [we, F.1]
    refine holds_mk Z.fx (by rw [← F.1]; exact F.2) ?_ ?_
    · rw [Z.x]; exact m1
    · rw [Z.x]; exact m2
  · refine holds_mk Z.fy p0.2 ?_ ?_
    all_goals
      rw [p0.1, Z.y]
      have T := Z.tb
      obtain ⟨r, hr, _, _⟩ := (sf_ e1 e2).r
      have g := hd_mul (s := 0) (fine_iff.1 T.f).1 hr (show Hd (waveI false (soI 0 e 40)) 0 from ⟨by have := cle.2 s1; rw [c0] at this; exact this, by have := cle.2 s2; rw [c0] at this; exact this⟩)
      have e0 : r * 0 / 1073741824 = 0 := by grind
      rw [e0] at g
      have t1 : (tE e (soI 0 e 40)).lo ≤ 0 := cle.1 (by rw [c0]; exact g.1)
      have t2 : 0 ≤ (tE e (soI 0 e 40)).hi := cle.1 (by rw [c0]; exact g.2)
    · show (tE e (soI 0 e 40)).lo * a ≤ 0
      exact Int.mul_nonpos_of_nonpos_of_nonneg t1 (by omega)
    · show 0 ≤ (tE e (soI 0 e 40)).hi * a
      exact Int.mul_nonneg t2 (by omega)
  · rw [most, A.x]; omega
  · rw [most2, A.x]; omega
  · rw [most, A.y]; omega
  · rw [A.y]; omega
  · rw [C.px, C.py, Int.sub_zero, Int.sub_zero, iv_eta (fine_iff.1 C.cb.f).1]
    exact el0 C.w
end Go.Or
