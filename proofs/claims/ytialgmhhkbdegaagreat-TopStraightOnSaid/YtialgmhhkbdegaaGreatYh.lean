/- The law TopStraightOn: sums, and the end. -/
import Derived.Test.YtialgmhhkbdegaaGreatYg
namespace Go.Proofs.YtialgmhhkbdegaaGreat
open Go.RowKit
namespace V
def In1 (x : Int) : Prop := 0 ≤ x ∧ x ≤ 1000000
theorem dn1 (z : Int) : dn (z * (0 + 1000000)) = z := by unfold dn; omega
theorem dn2 (z : Int) : dn (1000000 * (z + 0)) = z := by unfold dn; omega
theorem up1 (z : Int) : up (z * (0 + 1000000)) = z := by unfold up; omega
theorem up2 (z : Int) : up (1000000 * (z + 0)) = z := by unfold up; omega
theorem dnS (y z : Int) : dn (y * (z + 1000000)) = y + dn (y * z) := by
  rw [Int.mul_add]; unfold dn; omega
theorem upS (y z : Int) : up (y * (z + 1000000)) = y + up (y * z) := by
  rw [Int.mul_add]; unfold up; omega
theorem prod_in {x y : Int} (hx : In1 x) (hy : In1 y) : 0 ≤ x * y ∧ x * y ≤ 1000000000000 := by
  have h1 := Int.mul_nonneg hx.1 hy.1
  have h2 := mul_le2 hx.1 hx.2 hy.1 hy.2
  omega
theorem dn_in {x y : Int} (hx : In1 x) (hy : In1 y) : In1 (dn (x * y)) := by
  have := prod_in hx hy
  unfold In1 dn
  omega
theorem up_in {x y : Int} (hx : In1 x) (hy : In1 y) : In1 (up (x * y)) := by
  have := prod_in hx hy
  unfold In1 up
  omega
theorem lo3 {x y z : Int} (hx : In1 x) (hy : In1 y) (hz : In1 z) :
    x + dn (x * (y + dn (y * z))) ≥ x + dn (x * y) + dn (dn (x * y) * z) - 9 ∧ x + dn (x * (y + dn (y * z))) ≤ x + dn (x * y) + dn (dn (x * y) * z) + 9 := by
  have u1 : 1000000 * dn (y * z) ≤ y * z ∧ y * z ≤ 1000000 * dn (y * z) + 1000000 := by unfold dn; omega
  have v1 : 1000000 * dn (x * y) ≤ x * y ∧ x * y ≤ 1000000 * dn (x * y) + 1000000 := by unfold dn; omega
  generalize dn (y * z) = u at *
  generalize hv : dn (x * y) = v at *
  have a1 := Int.mul_le_mul_of_nonneg_left u1.1 hx.1
  have a2 := Int.mul_le_mul_of_nonneg_left u1.2 hx.1
  have b1 := Int.mul_le_mul_of_nonneg_right v1.1 hz.1
  have b2 := Int.mul_le_mul_of_nonneg_right v1.2 hz.1
  have e1 : x * (1000000 * u) = 1000000 * (x * u) := by grind
  have e2 : x * (1000000 * u + 1000000) = 1000000 * (x * u) + 1000000 * x := by grind
  have e3 : 1000000 * v * z = 1000000 * (v * z) := by grind
  have e4 : (1000000 * v + 1000000) * z = 1000000 * (v * z) + 1000000 * z := by grind
  have e5 : x * (y * z) = x * y * z := by grind
  have e6 : x * (y + u) = x * y + x * u := by grind
  rw [e1, e5] at a1
  rw [e2, e5] at a2
  rw [e3] at b1
  rw [e4] at b2
  rw [e6]
  obtain ⟨hx0, hx1⟩ := hx
  obtain ⟨hz0, hz1⟩ := hz
  unfold dn
  omega
theorem hi3 {x y z : Int} (hx : In1 x) (hy : In1 y) (hz : In1 z) :
    x + up (x * (y + up (y * z))) ≥ x + up (x * y) + up (up (x * y) * z) - 9 ∧ x + up (x * (y + up (y * z))) ≤ x + up (x * y) + up (up (x * y) * z) + 9 := by
  have u1 : y * z ≤ 1000000 * up (y * z) ∧ 1000000 * up (y * z) ≤ y * z + 1000000 := by unfold up; omega
  have v1 : x * y ≤ 1000000 * up (x * y) ∧ 1000000 * up (x * y) ≤ x * y + 1000000 := by unfold up; omega
  generalize up (y * z) = u at *
  generalize hv : up (x * y) = v at *
  have a1 := Int.mul_le_mul_of_nonneg_left u1.1 hx.1
  have a2 := Int.mul_le_mul_of_nonneg_left u1.2 hx.1
  have b1 := Int.mul_le_mul_of_nonneg_right v1.1 hz.1
  have b2 := Int.mul_le_mul_of_nonneg_right v1.2 hz.1
  have e1 : x * (1000000 * u) = 1000000 * (x * u) := by grind
  have e2 : x * (y * z + 1000000) = x * y * z + 1000000 * x := by grind
  have e3 : 1000000 * v * z = 1000000 * (v * z) := by grind
  have e4 : (x * y + 1000000) * z = x * y * z + 1000000 * z := by grind
  have e5 : x * (y * z) = x * y * z := by grind
  have e6 : x * (y + u) = x * y + x * u := by grind
  rw [e1, e5] at a1
  rw [e1, e2] at a2
  rw [e3] at b1
  rw [e3, e4] at b2
  rw [e6]
  obtain ⟨hx0, hx1⟩ := hx
  obtain ⟨hz0, hz1⟩ := hz
  unfold up
  omega
theorem aF_of {l : List (TCT cC)} (hv : validL l = true) (hl : l.length ≤ 3) : aF l = allF l cM := by
  unfold aF
  have : checkF l = 0 := by
    unfold checkF
    rw [hv, decide_eq_false (show ¬ (l.length : Int) > 64 by omega)]; rfl
  rw [this]; rfl
theorem in_lo {c : TCT cC} (h : validC (un c) = true) : In1 (un c).1 := by
  have := of_decide_eq_true h
  exact ⟨this.1, by omega⟩
theorem in_hi {c : TCT cC} (h : validC (un c) = true) : In1 (un c).2 := by
  have := of_decide_eq_true h
  exact ⟨by omega, this.2.2⟩
theorem val1 {c : TCT cC} (h : validC (un c) = true) : validL [c] = true := by
  unfold validL; simp only [List.all_cons, List.all_nil, Bool.and_true]; exact h
theorem val2 {c d : TCT cC} (h : validC (un c) = true) (k : validC (un d) = true) : validL [c, d] = true := by
  unfold validL; simp only [List.all_cons, List.all_nil, Bool.and_true, h, k]
theorem val3 {c d e : TCT cC} (h : validC (un c) = true) (k : validC (un d) = true) (m : validC (un e) = true) : validL [c, d, e] = true := by
  unfold validL; simp only [List.all_cons, List.all_nil, Bool.and_true, h, k, m]
/-- the sums are as near as the law says -/
def Near (k : Nat) (v : Ch) (r : Int × Int) : Prop := (v.1 ≥ r.1 - k * k ∧ v.1 ≤ r.1 + k * k) ∧ (v.2 ≥ r.2 - k * k ∧ v.2 ≤ r.2 + k * k) ∧ (0 ≤ r.1 ∧ r.1 ≤ 3000000) ∧ 0 ≤ r.2 ∧ r.2 ≤ 3000000
theorem a1_eq {c : TCT cC} (h : validC (un c) = true) : aF [c] = (un c) := by
  rw [aF_of (val1 h) (by simp)]
  show (dn (1000000 * ((un c).1 + 0)), up (1000000 * ((un c).2 + 0))) = _
  rw [dn2, up2]
theorem a2_eq {c d : TCT cC} (h : validC (un c) = true) (k : validC (un d) = true) : aF [c, d] = (dn ((un c).1 * (un d).1), up ((un c).2 * (un d).2)) := by
  rw [aF_of (val2 h k) (by simp)]
  show (dn (dn (1000000 * ((un c).1 + 0)) * ((un d).1 + 0)), up (up (1000000 * ((un c).2 + 0)) * ((un d).2 + 0))) = _
  rw [dn2, up2, Int.add_zero, Int.add_zero]
theorem a3_eq {c d e : TCT cC} (h : validC (un c) = true) (k : validC (un d) = true) (m : validC (un e) = true) : aF [c, d, e] = (dn (dn ((un c).1 * (un d).1) * (un e).1), up (up ((un c).2 * (un d).2) * (un e).2)) := by
  rw [aF_of (val3 h k m) (by simp)]
  show (dn (dn (dn (1000000 * ((un c).1 + 0)) * ((un d).1 + 0)) * ((un e).1 + 0)), up (up (up (1000000 * ((un c).2 + 0)) * ((un d).2 + 0)) * ((un e).2 + 0))) = _
  rw [dn2, up2]
  simp only [Int.add_zero]
theorem near_al {b : TCT cB} {a h : Int} (hA : Al b a h) : ∀ k : Nat, bN b - h = k → k ≤ 3 → Near k (VS b k a h) (lpS b k a h [] 0 0)
  | 0, _, _ => by unfold Near VS lpS; simp
  | 1, hk, _ => by
    have v1 := (hA.ch (by omega)).2
    have i1 := in_lo v1
    have j1 := in_hi v1
    unfold In1 at i1 j1
    unfold Near VS VS lpS lpS timesF
    simp only [List.nil_append]
    rw [a1_eq v1, dn1, up1, W64_id (by omega) (by omega), W64_id (by omega) (by omega)]
    omega
  | 2, hk, _ => by
    have v1 := (hA.ch (by omega)).2
    have hB := hA.nxt (by omega)
    have v2 := (hB.ch (by omega)).2
    have i1 := in_lo v1
    have j1 := in_hi v1
    have i2 := in_lo v2
    have j2 := in_hi v2
    have p1 := dn_in i1 i2
    have p2 := up_in j1 j2
    unfold Near VS VS VS lpS lpS lpS timesF
    simp only [List.nil_append, List.cons_append]
    rw [a1_eq v1, a2_eq v1 v2, dn1, up1, dnS, upS]
    unfold In1 at *
    rw [W64_id (n := 0 + (un (cRn b a h)).1) (by omega) (by omega), W64_id (n := 0 + (un (cRn b a h)).2) (by omega) (by omega), W64_id (by omega) (by omega), W64_id (by omega) (by omega)]
    simp only
    omega
  | 3, hk, _ => by
    have v1 := (hA.ch (by omega)).2
    have hB := hA.nxt (by omega)
    have v2 := (hB.ch (by omega)).2
    have hC := hB.nxt (by omega)
    have v3 := (hC.ch (by omega)).2
    have i1 := in_lo v1
    have j1 := in_hi v1
    have i2 := in_lo v2
    have j2 := in_hi v2
    have i3 := in_lo v3
    have j3 := in_hi v3
    have p1 := dn_in i1 i2
    have p2 := up_in j1 j2
    have q1 := dn_in p1 i3
    have q2 := up_in p2 j3
    have l3 := lo3 i1 i2 i3
    have h3 := hi3 j1 j2 j3
    unfold Near VS VS VS VS lpS lpS lpS lpS timesF
    simp only [List.nil_append, List.cons_append]
    rw [a1_eq v1, a2_eq v1 v2, a3_eq v1 v2 v3, dn1, up1, dnS, upS, dnS, upS]
    unfold In1 at *
    rw [W64_id (n := 0 + (un (cRn b a h)).1) (by omega) (by omega), W64_id (n := 0 + (un (cRn b a h)).2) (by omega) (by omega)]
    simp only
    rw [W64_id (n := 0 + (un (cRn b a h)).1 + _) (by omega) (by omega), W64_id (n := 0 + (un (cRn b a h)).2 + _) (by omega) (by omega), W64_id (by omega) (by omega), W64_id (by omega) (by omega)]
    omega
  | k + 4, _, h3 => by omega
theorem T_so_ok {b : TCT cB} {a h : Int} (hA : Al b a h) (h3 : bN b ≤ 3) : (T_so b (sAl a h)).sat (fun _ => True) := by
  have hb := hA.hb
  obtain ⟨k, hk⟩ : ∃ k : Nat, bN b - h = k := ⟨(bN b - h).toNat, by omega⟩
  have hs : sceneE b (sAl a h) = 0 := by
    unfold sceneE
    rw [hA.bo, hA.p]; rfl
  have hp : planV b (sAl a h) = List.replicate k runA := by
    unfold planV
    rw [hA.bo, hA.p, place_al, plan_al k 30 a h hA hk (by omega)]; rfl
  have hv : valF b (sAl a h) = mk (VS b k a h) := by
    unfold valF
    rw [hA.bo, hA.p, place_al]
    show Vf 21 b (pAl a h) = _
    rw [← Vf_al k 21 a h hA hk (by omega)]
    exact (mk_un _).symm
  have nr := near_al hA k hk (by omega)
  have hy : y_so b (sAl a h) = some (ex_so (vSo b (sAl a h)) (List.replicate k runA) (lpS b k a h [] 0 0).1 (lpS b k a h [] 0 0).2) := by
    unfold y_so
    rw [hp]
    exact iter_al k 0 40 a h [] 0 0 hA hk (by omega) (by omega) (by omega) rfl rfl
  unfold T_so
  rw [hs, hp, hy, List.length_replicate]
  have e1 : ((k : Int) != W64 (((b.2.2.1 : List Int).length : Int) - (sAl a h).2.1)) = false := by
    have : W64 (((b.2.2.1 : List Int).length : Int) - (sAl a h).2.1) = k := by
      show W64 (bN b - h) = k
      rw [hk, W64_id (by omega) (by omega)]
    rw [this]
    simp only [bne_self_eq_false]
  rw [e1]
  show (end_so (((), List.replicate k runA, (lpS b k a h [] 0 0).1, (lpS b k a h [] 0 0).2, ()), (vSo b (sAl a h), ()))).sat _
  unfold end_so
  simp only [List.length_replicate]
  have ev1 : (vSo b (sAl a h)).1 = (VS b k a h).1 := by unfold vSo; rw [hv]; rfl
  have ev2 : (vSo b (sAl a h)).2.1 = (VS b k a h).2 := by unfold vSo; rw [hv]; rfl
  obtain ⟨n1, n2, n3, n4⟩ := nr
  have hkk : (k : Int) * k ≤ 3 * 3 := mul_le2 (by omega) (by omega) (by omega) (by omega)
  have hk0 : 0 ≤ (k : Int) * k := Int.mul_nonneg (by omega) (by omega)
  rw [ev1, ev2, W64_id (n := (k : Int) * k) (by omega) (by omega), W64_id (by omega) (by omega), W64_id (by omega) (by omega), W64_id (by omega) (by omega), W64_id (by omega) (by omega),
    decide_eq_true n1.1, decide_eq_true n1.2, decide_eq_true n2.1, decide_eq_true n2.2]
  trivial
theorem bnd_valid {x y : Int} (hx : 0 ≤ x ∧ x ≤ 65535) (hy : 0 ≤ y ∧ y ≤ 65535) : validC (un (bnd x y)) = true := by
  unfold bnd validC un
  rw [W64_id (n := x) (by omega) (by omega), W64_id (n := x * 1000000) (by omega) (by omega), Int.tdiv_eq_ediv_of_nonneg (by omega), W64_id (n := y) (by omega) (by omega)]
  have h1 : 0 ≤ x * 1000000 / 65535 ∧ x * 1000000 / 65535 ≤ 1000000 := by omega
  rw [W64_id (n := x * 1000000 / 65535) (by omega) (by omega), W64_id (by omega) (by omega)]
  refine decide_eq_true ?_
  simp only
  omega
theorem bF_runs {c : TCT cCo} (h : WFD cCo c) : runsOk (bF c).1.2.2.2.1 = true ∧ runsOk (bF c).1.2.2.2.2.1 = true := by
  obtain ⟨hs, ⟨r0, r1, r2, ⟨⟩⟩, ⟨t0, t1, t2, ⟨⟩⟩, ⟨m0, m1, m2, m3, m4, m5, ⟨⟩⟩, a, hh, p, q, da, db, ob, w, ⟨⟩⟩ := c
  obtain ⟨_, ⟨q0, q1, q2, _⟩, ⟨q3, q4, q5, _⟩, ⟨g0, g1, g2, g3, g4, g5, _⟩, _⟩ := h
  have z0 := bnd_valid (cu16_in q0) (cu16_in g0)
  have z1 := bnd_valid (cu16_in q1) (cu16_in g1)
  have z2 := bnd_valid (cu16_in q2) (cu16_in g2)
  have z3 := bnd_valid (cu16_in q3) (cu16_in g3)
  have z4 := bnd_valid (cu16_in q4) (cu16_in g4)
  have z5 := bnd_valid (cu16_in q5) (cu16_in g5)
  constructor
  · show (validC (un (bnd r0 m0)) && (validC (un (bnd r1 m1)) && validC (un (bnd r2 m2)))) = true
    rw [z0, z1, z2]; rfl
  · show (validC (un (bnd t0 m3)) && (validC (un (bnd t1 m4)) && validC (un (bnd t2 m5)))) = true
    rw [z3, z4, z5]; rfl
theorem topStraightOn_sat : LawSat X_topStraightOn 4 cs_topStraightOn 8 := lawSat 8 TY_topStraightOn TY_topStraightOn_eq (fun y hy => by
  obtain ⟨c, ⟨⟩⟩ := y
  obtain ⟨hc, _⟩ := hy
  obtain ⟨n, hb⟩ := bF_ok hc
  obtain ⟨r1, r2⟩ := bF_runs hc
  obtain ⟨k1, k2⟩ := bOk_of hb.d hb.w hb.l hb.hs r1 r2
  have hA : Al (bF c).1 (bF c).2.1 (bF c).2.2.1 := ⟨k1, place_of k2 hb.s1 hb.s2 (Nat.zero_le 2) rfl (fun x hx => by cases hx)⟩
  have h3 : (((bF c).1.2.2.1 : List Int).length : Int) ≤ 3 := Int.ofNat_le.2 hb.l.2
  exact T_so_ok hA h3)
end V
end Go.Proofs.YtialgmhhkbdegaaGreat
