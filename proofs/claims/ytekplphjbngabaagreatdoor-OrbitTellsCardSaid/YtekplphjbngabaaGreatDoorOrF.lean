/-
 Chapter 21: facts of a place (plain): where it is, how wide, what its parts are.
-/
import Derived.Test.YtekplphjbngabaaGreatDoorOrC
set_option maxRecDepth 100000
namespace Go.Or
open Go Go.RowKit Go.Sx Go.Nm Go.Wd Go.Qt Go.Iv Go.An Go.Wv Go.Nv Go.Ke Go.Proofs
theorem sin_p : -1 ≤ 1073741824 * sR false (xr 3373259427) ∧ 1073741824 * sR false (xr 3373259427) ≤ 1 := by decide +kernel
theorem root_low {m e : Int} (h1 : 0 ≤ m) (h2 : m ≤ 3221225472) (e1 : 0 ≤ e) (e2 : e ≤ 966367641) : (hv m e (-1) 31).1 < 3373259427 := by
 have f := hv_facts h1 h2 e1 e2 (.inl rfl) 31 (by omega)
 have a1 := f.a1
 have a2 := f.a2
 rcases Int.lt_or_le (m + 1073741824) 3373259427 with g | g
 · omega
 · have M : May m e 3373259427 := ⟨h1, h2, e1, e2, by omega, by omega⟩
   have G := gp M
   have c := sg_cases M
   have hh := G.h
   have w := G.w
   have s := sin_p
   have c1 := cle.2 e1
   have c2 := cle.2 e2
   have k0 : ((0 : Int) : Rat) = 0 := rfl
   have k1 : ((966367641 : Int) : Rat) = 966367641 := rfl
   have k2 : ((3373259427 : Int) : Rat) = 3373259427 := rfl
   rw [k0] at c1
   rw [k1] at c2
   have t : (e : Rat) * (1073741824 * sR false (xr 3373259427)) ≤ (e : Rat) * 1 := Rat.mul_le_mul_of_nonneg_left s.2 c1
   have u := hh.2
   rw [k2] at u
   have v : (3300000000 : Int) ≤ (gap0 e 3373259427).hi := by
    refine cle.1 ?_
    have k3 : ((3300000000 : Int) : Rat) = 3300000000 := rfl
    rw [k3]
    grind
   have sg1 : sg m e 3373259427 = 1 := c.1.2 (by rw [G.k]; show 0 < (gap0 e 3373259427).lo - m; omega)
   exact sg_order ⟨h1, h2, e1, e2, by omega, by omega⟩ M f.s sg1
structure Rt (m e : Int) : Prop where
 i : soI m e 40 = ⟨(hv m e (-1) 31).1, (hv m e 1 31).1, false⟩
 l : -2403 ≤ (hv m e (-1) 31).1
 h : (hv m e 1 31).1 ≤ 3373260628
 n : (hv m e 1 31).1 - (hv m e (-1) 31).1 ≤ 1202
 o : 2 ≤ (hv m e 1 31).1 - (hv m e (-1) 31).1
theorem rt_ {m e : Int} (h : mB m e = true) : Rt m e := by
 obtain ⟨h1, h2, e1, e2⟩ := mB_iff.1 h
 have n := narrow h1 h2 e1 e2
 have n0 := narrow (m := 0) (by omega) (by omega) e1 e2
 have z := nought e1 e2
 have mo := more (m := 0) (w := m) (by omega) h1 h2 e1 e2
 have r := root_low h1 h2 e1 e2
 exact ⟨(so40 h).i, by omega, by omega, n.1, n.2⟩
structure Pl (a e m : Int) : Prop where
 b : mB m e = true
 a1 : 1 ≤ a
 a2 : a ≤ 262144
 e1 : 0 ≤ e
 e2 : e ≤ 966367641
 w : holdsI (around 4294967296) (soI m e 40) = true
 cb : Bd (waveI true (soI m e 40)) 1073741824
 cw : (waveI true (soI m e 40)).hi - (waveI true (soI m e 40)).lo ≤ 1263
 tb : Bd (tE e (soI m e 40)) 1073741824
 tw : (tE e (soI m e 40)).hi - (tE e (soI m e 40)).lo ≤ 1267
 tl : -4000 ≤ (tE e (soI m e 40)).lo
 x : xI a e m = ⟨((waveI true (soI m e 40)).lo - e) * a, ((waveI true (soI m e 40)).hi - e) * a, false⟩
 y : yI a e m = ⟨(tE e (soI m e 40)).lo * a, (tE e (soI m e 40)).hi * a, false⟩
 fx : fine (xI a e m) = true
 fy : fine (yI a e m) = true
 px : partI (xI a e m) 1 a = ⟨(waveI true (soI m e 40)).lo - e, (waveI true (soI m e 40)).hi - e, false⟩
 py : partI (yI a e m) 1 a = tE e (soI m e 40)
 cx : addI ⟨(waveI true (soI m e 40)).lo - e, (waveI true (soI m e 40)).hi - e, false⟩ (pointI e) = waveI true (soI m e 40)
 ee : plE a e m = 0
theorem plO_iff {a e m : Int} : plO a e m = true ↔ 1 ≤ a ∧ a ≤ 262144 ∧ mB m e = true := by
 unfold plO; simp
theorem iv_eta {x : Iv} (h : x.bad = false) : (⟨x.lo, x.hi, false⟩ : Iv) = x := by
 cases x with
 | mk l u c => simp only at h; rw [h]
theorem pl {a e m : Int} (h : plO a e m = true) : Pl a e m := by
 obtain ⟨a1, a2, b⟩ := plO_iff.1 h
 obtain ⟨m1, m2, e1, e2⟩ := mB_iff.1 b
 have R := rt_ b
 have ri := R.i
 have rl := R.l
 have rh := R.h
 have rn := R.n
 have ro := R.o
 have fw : fine (soI m e 40) = true := by
  rw [ri]
  exact fine_iff.2 ⟨rfl, by show _ ≤ (hv m e (-1) 31).1; omega, by show (hv m e (-1) 31).1 ≤ (hv m e 1 31).1; omega, by show (hv m e 1 31).1 ≤ _; omega⟩
 have wl : (soI m e 40).lo = (hv m e (-1) 31).1 := by rw [ri]
 have wh : (soI m e 40).hi = (hv m e 1 31).1 := by rw [ri]
 have hw : holdsI (around 4294967296) (soI m e 40) = true := far_holds fw (by omega) (by omega)
 have ms := mid_spec fw
 obtain ⟨k1, k2, k3, k4, k5, k6⟩ := ms
 have C := wave_facts true hw
 have S := wave_facts false hw
 have cw := wave_wide true hw
 have sw := wave_wide false hw
 have cb : Bd (waveI true (soI m e 40)) 1073741824 := ⟨C.f, C.l1, C.h1⟩
 have sb : Bd (waveI false (soI m e 40)) 1073741824 := ⟨S.f, S.l1, S.h1⟩
 have E := el e1 e2 hw
 have SF := sf_ e1 e2
 have rw_ := root_wide e1 e2
 have tb := E.t
 have tw := mul_wide (j := 1266) SF.b sb (w := 3) (e := 1263) rw_ (by omega) (by decide) (fine_iff.1 tb.f).1
 have tw : (tE e (soI m e 40)).hi - (tE e (soI m e 40)).lo ≤ 1267 := tw
 have sm := S.m
 have lo := sin_low (n := midm (soI m e 40)) (by
  have g : (2 * midm (soI m e 40)) ≥ (soI m e 40).lo + (soI m e 40).hi - 1 := by
   have : midm (soI m e 40) = nq ((soI m e 40).lo + (soI m e 40).hi) 2 := rfl
   rw [nq2] at this
   split at this
   · omega
   · split at this <;> omega
  omega) (by omega)
 have kl : ((-2410 : Int) : Rat) = -2410 := rfl
 have sl : -2410 ≤ (waveI false (soI m e 40)).hi := by
  refine cle.1 ?_
  rw [kl]
  exact Rat.le_trans lo sm.2
 have sl' : -3673 ≤ (waveI false (soI m e 40)).lo := by omega
 have tl : -4000 ≤ (tE e (soI m e 40)).lo := by
  obtain ⟨r, hr, _, _⟩ := SF.r
  have g := hd_mul (fine_iff.1 tb.f).1 hr S.m
  have hu : 0 ≤ r := by
   have := cle.2 SF.l0
   have z : ((0 : Int) : Rat) = 0 := rfl
   rw [z] at this
   exact Rat.le_trans this hr.1
  have hv : r ≤ 1073741824 := by
   have := cle.2 SF.b.h
   have z : ((1073741824 : Int) : Rat) = 1073741824 := rfl
   rw [z] at this
   exact Rat.le_trans hr.2 this
  have q : -2410 ≤ (tE e (soI m e 40)).hi := by
   refine cle.1 ?_
   rw [kl]
   refine Rat.le_trans ?_ g.2
   generalize sR false (xr (midm (soI m e 40))) = s at *
   have p1 : -2410 * 1073741824 ≤ r * (1073741824 * s) := by
    by_cases hs : 0 ≤ 1073741824 * s
    · have := Rat.mul_nonneg hu hs
      grind
    · have := Rat.mul_le_mul_of_nonneg_right (show r ≤ 1073741824 from hv) (show (0 : Rat) ≤ -(1073741824 * s) by grind)
      grind
   have : r * (1073741824 * s) / 1073741824 = r * s := by grind
   grind
  omega
 have pe := hd_point (n := e) (by omega) (by omega)
 have cl1 := C.l1
 have ch1 := C.h1
 have cfi := fine_iff.1 C.f
 have sub := sub_ok C.f pe.2 (by rw [pe.1]; show _ ≤ (waveI true (soI m e 40)).lo - e; omega) (by rw [pe.1]; show (waveI true (soI m e 40)).hi - e ≤ _; omega)
 have sub1 : subI (waveI true (soI m e 40)) (pointI e) = ⟨(waveI true (soI m e 40)).lo - e, (waveI true (soI m e 40)).hi - e, false⟩ := by rw [sub.1, pe.1]
 have i1 : I64 (1 : Int) := by unfold I64; omega
 have ia : I64 a := by unfold I64; omega
 have q1 : -2040109465 * 262144 ≤ ((waveI true (soI m e 40)).lo - e) * a := by
  have A := Int.mul_le_mul_of_nonneg_right (show -2040109465 ≤ (waveI true (soI m e 40)).lo - e by omega) (show 0 ≤ a by omega)
  omega
 have q2 : ((waveI true (soI m e 40)).hi - e) * a ≤ 1073741824 * 262144 := by
  have A := Int.mul_le_mul_of_nonneg_right (show (waveI true (soI m e 40)).hi - e ≤ 1073741824 by omega) (show 0 ≤ a by omega)
  omega
 have q3 : ((waveI true (soI m e 40)).lo - e) * a ≤ ((waveI true (soI m e 40)).hi - e) * a := Int.mul_le_mul_of_nonneg_right (by omega) (by omega)
 have fs : fine (⟨(waveI true (soI m e 40)).lo - e, (waveI true (soI m e 40)).hi - e, false⟩ : Iv) = true := by rw [← sub1]; exact sub.2
 have X := part_exact (x := ⟨(waveI true (soI m e 40)).lo - e, (waveI true (soI m e 40)).hi - e, false⟩) (n := a) (d := 1) fs ia i1 (by decide) (by rw [Int.mul_one]) (by rw [Int.mul_one]) (by omega) (by omega) q3
 have x : xI a e m = ⟨((waveI true (soI m e 40)).lo - e) * a, ((waveI true (soI m e 40)).hi - e) * a, false⟩ := by
  unfold xI; rw [h]
  show partI (subI (waveI true (soI m e 40)) (pointI e)) a 1 = _
  rw [sub1]; exact X.1
 have fx : fine (xI a e m) = true := by rw [x, ← X.1]; exact X.2
 have tl1 := tb.l
 have th1 := tb.h
 have tf := fine_iff.1 tb.f
 have q4 : -1073741824 * 262144 ≤ (tE e (soI m e 40)).lo * a := by
  have A := Int.mul_le_mul_of_nonneg_right (show -1073741824 ≤ (tE e (soI m e 40)).lo by omega) (show 0 ≤ a by omega)
  omega
 have q5 : (tE e (soI m e 40)).hi * a ≤ 1073741824 * 262144 := by
  have A := Int.mul_le_mul_of_nonneg_right (show (tE e (soI m e 40)).hi ≤ 1073741824 by omega) (show 0 ≤ a by omega)
  omega
 have q6 : (tE e (soI m e 40)).lo * a ≤ (tE e (soI m e 40)).hi * a := Int.mul_le_mul_of_nonneg_right (by omega) (by omega)
 have Y := part_exact (x := tE e (soI m e 40)) (n := a) (d := 1) tb.f ia i1 (by decide) (by rw [Int.mul_one]) (by rw [Int.mul_one]) (by omega) (by omega) q6
 have sm : smI e = rootI (qE e) := by unfold smI; rw [mB_0 b]; rfl
 have y : yI a e m = ⟨(tE e (soI m e 40)).lo * a, (tE e (soI m e 40)).hi * a, false⟩ := by
  unfold yI; rw [h, sm]
  exact Y.1
 have fy : fine (yI a e m) = true := by rw [y, ← Y.1]; exact Y.2
 have PX := part_exact (x := xI a e m) (n := 1) (d := a) (L := (waveI true (soI m e 40)).lo - e) (H := (waveI true (soI m e 40)).hi - e) fx i1 ia (by omega) (by rw [x, Int.mul_one]) (by rw [x, Int.mul_one]) (by omega) (by omega) (by omega)
 have PY := part_exact (x := yI a e m) (n := 1) (d := a) (L := (tE e (soI m e 40)).lo) (H := (tE e (soI m e 40)).hi) fy i1 ia (by omega) (by rw [y, Int.mul_one]) (by rw [y, Int.mul_one]) (by omega) (by omega) (by omega)
 have ad := add_ok fs pe.2 (by rw [pe.1]; show _ ≤ (waveI true (soI m e 40)).lo - e + e; omega) (by rw [pe.1]; show (waveI true (soI m e 40)).hi - e + e ≤ _; omega)
 refine ⟨b, a1, a2, e1, e2, hw, cb, by omega, tb, tw, tl, x, y, fx, fy, PX.1, ?_, ?_, ?_⟩
 · rw [PY.1]; exact iv_eta tf.1
 · rw [ad.1, pe.1]
   show (⟨(waveI true (soI m e 40)).lo - e + e, (waveI true (soI m e 40)).hi - e + e, false⟩ : Iv) = _
   rw [Int.sub_add_cancel, Int.sub_add_cancel]
   exact iv_eta cfi.1
 · unfold plE; rw [h]; rfl
theorem reach1 {i : Iv} (f : fine i = true) (hw : i.hi - i.lo ≤ 1073741824) : whR i ≤ 1 := by
 have w := wh f
 have l := w.l
 have u := w.u
 rcases w.r3 with r | r | r <;> omega
end Go.Or
