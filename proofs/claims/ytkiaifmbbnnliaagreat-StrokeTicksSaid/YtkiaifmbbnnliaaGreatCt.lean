import Derived.Test.YtkiaifmbbnnliaaGreatCs
namespace Go.Proofs.YtkiaifmbbnnliaaGreat
open Go.RowKit
namespace V
namespace St
theorem movB_still (m : TCT cMot) : movB m = !stillM m := rfl
def up2 (os : List Bool) (ks : Kns) : Mots ⊕ Int → S2 ⊕ Int
  | .inl ms => .inl (ms, os, ks)
  | .inr e => .inr e
def upM (os : List Bool) : MK ⊕ Int → S2 ⊕ Int
  | .inl s => .inl (s.1, os, s.2)
  | .inr e => .inr e
def stE2 (bl : List (TCT cBall)) (i : Nat) (s : S2) : S2 ⊕ Int := up2 s.2.1 s.2.2 (stE bl s.2.1 i s.1)
theorem stE2_fold {bl : List (TCT cBall)} {os : List Bool} {ks : Kns} : ∀ (k i : Nat) (ms : Mots), foldN (stE2 bl) i k (ms, os, ks) = up2 os ks (foldN (stE bl os) i k ms)
  | 0, _, _ => rfl
  | k + 1, i, ms => by
    have e : stE2 bl i (ms, os, ks) = up2 os ks (stE bl os i ms) := rfl
    unfold foldN
    rw [e]
    cases stE bl os i ms with
    | inl ms' => exact stE2_fold k (i + 1) ms'
    | inr e => rfl
def res_t1 (c : RT) : S2 ⊕ Int → Left' (E_k 5000)
  | .inl s => ex_k 2 5000 c s
  | .inr e => rt_k 5000 e
theorem inv_t1 {bl : List (TCT cBall)} {n k : Nat} (i : Nat) (s s' : S2) (hi : i < n) (hl : Inv2 n k 0 s) (h : stE2 bl i s = .inl s') : Inv2 n k 0 s' := by
  unfold stE2 at h
  cases h1 : stE bl s.2.1 i s.1 with
  | inr e => rw [h1] at h; cases h
  | inl ms =>
    rw [h1] at h
    cases h
    exact ⟨inv_m1 (n := n) i s.1 ms hi hl.m h1, hl.o, hl.k⟩
theorem it_t1 {c : RT} {s : S2} {k : Nat} (hn8 : nB c ≤ 8) (hs : Inv2 (nB c) k 0 s) : iter st_t1 (nB c + 1) (hd_k 12 5000 c 0 s) = some (res_t1 c (foldN (stE2 (blX c.g)) 0 (nB c) s)) := by
  have hn : (nB c : Int) ≤ maxK .i64 := by show (nB c : Int) ≤ 9223372036854775807; omega
  refine iter_n (nB c) (fun i s => hd_k 12 5000 c i s) (stE2 (blX c.g)) (res_t1 c) (fun _ s => Inv2 (nB c) k 0 s) (fun i s hi hl => ?_) inv_t1 (fun s hl => ?_) (nB c) 0 s (by omega) hs
  · show (st_t1' c i s).run = _
    have h1 := hl.m
    have h2 := hl.o
    unfold st_t1' stE2 stE rollB
    rw [decide_eq_true (show (i : Int) < (nB c : Int) by omega), inO_ok (by omega), inO_ok (by omega), inN_ok (by omega), inO_ok (by omega), inO_ok (by omega), show Int.toNat (i : Int) = i from rfl, W64_succ hi hn]
    show Tree.run (bif getA s.2.1 i (dflt .b) then _ else bif stillM (getM s.1 i) then _ else _ : TK 12 5000) = some (stepN (fun i s => hd_k 12 5000 c (i : Nat) s) (res_t1 c) i (up2 s.2.1 s.2.2 (bif !(!getA s.2.1 i (dflt .b) && !stillM (getM s.1 i)) then .inl s.1 else _)))
    cases getA s.2.1 i (dflt .b) with
    | true => rfl
    | false =>
      cases stillM (getM s.1 i) with
      | true => rfl
      | false =>
        simp only [Bool.not_false, Bool.and_self, Bool.not_true, cond_false]
        cases (stpV (getB (blX c.g) i) (getM s.1 i)).2.1 != 0 <;> rfl
  · show (st_t1' c (nB c) s).run = _
    unfold st_t1'
    rw [decide_eq_false (show ¬ (nB c : Int) < (nB c : Int) by omega)]
    rfl
def res_t2 (c : RT) : S2 ⊕ Int → Left' (E_k 6000)
  | .inl s => ex_k 4 6000 c s
  | .inr _ => ex_k 4 6000 c ([], [], [])
theorem it_t2 {c : RT} {s : S2} {k : Nat} (hn8 : nB c ≤ 8) (hk : k ≤ 900000) (hs : Inv2 (nB c) k 0 s) : iter st_t2 (nB c + 1) (hd_k 15 6000 c 0 s) = some (res_t2 c (foldN (lvE (lwG c.g) c.t c.st) 0 (nB c) s)) := by
  have hn : (nB c : Int) ≤ maxK .i64 := by show (nB c : Int) ≤ 9223372036854775807; omega
  refine iter_n (nB c) (fun i s => hd_k 15 6000 c i s) (lvE (lwG c.g) c.t c.st) (res_t2 c) (Inv2 (nB c) k) (fun i s hi hl => ?_) inv_m2 (fun s hl => ?_) (nB c) 0 s (by omega) hs
  · show (st_t2' c i s).run = _
    have h1 := hl.m
    have h2 := hl.o
    have h3 := hl.k
    unfold st_t2' lvE appK
    rw [decide_eq_true (show (i : Int) < (nB c : Int) by omega), inO_ok (by omega), inO_ok (by omega), inO_ok (by omega), inO_ok (by omega), show Int.toNat (i : Int) = i from rfl, W64_succ hi hn, app_ok (by simp; omega) (by decide)]
    cases getA s.2.1 i (dflt .b) with
    | true => rfl
    | false =>
      simp only [Bool.not_false, cond_true]
      cases onB (lwG c.g) (getM s.1 i).1 <;> rfl
  · show (st_t2' c (nB c) s).run = _
    unfold st_t2'
    rw [decide_eq_false (show ¬ (nB c : Int) < (nB c : Int) by omega)]
    rfl
def bcE (b : TCT cBall) (c : TCT cBnc) (ps : Dss) (w fl t st : Int) (i : Nat) (k : Nat) (s : S2) : S2 ⊕ Int :=
  bif !rollB s.1 s.2.1 i || flyB w fl i then .inl s else
  bif (bmV b (getM s.1 i) (getD4 ps k) c).2.1 == 4 then .inr (bmV b (getM s.1 i) (getD4 ps k) c).2.1 else
  bif (bmV b (getM s.1 i) (getD4 ps k) c).2.1 == 0 then .inl (setA s.1 i (bmV b (getM s.1 i) (getD4 ps k) c).1, s.2.1, s.2.2 ++ [kn t st 1 i k]) else .inl s
def res_t4 (c : RT) (i : Int) : S2 ⊕ Int → Left' E_t4
  | .inl s => ex_t4 c i s
  | .inr e => rt_t4 e
theorem inv_t4 {b : TCT cBall} {c : TCT cBnc} {ps : Dss} {w fl t st : Int} {i n k0 m : Nat} (k : Nat) (s s' : S2) (_ : k < m) (hl : Inv2 n k0 k s) (h : bcE b c ps w fl t st i k s = .inl s') : Inv2 n k0 (k + 1) s' := by
  unfold bcE at h
  have hk := hl.k
  cases h1 : !rollB s.1 s.2.1 i || flyB w fl i with
  | true => rw [h1] at h; cases h; exact ⟨hl.m, hl.o, by omega⟩
  | false =>
    rw [h1] at h
    cases h3 : (bmV b (getM s.1 i) (getD4 ps k) c).2.1 == 4 with
    | true => rw [h3] at h; cases h
    | false =>
      rw [h3] at h
      cases h2 : (bmV b (getM s.1 i) (getD4 ps k) c).2.1 == 0 with
      | true => rw [h2] at h; cases h; exact ⟨by rw [setA_len]; exact hl.m, hl.o, by simp; omega⟩
      | false => rw [h2] at h; cases h; exact ⟨hl.m, hl.o, by omega⟩
theorem it_t4 {c : RT} {s : S2} {i k0 : Nat} (hi : i < nB c) (hs : Inv2 (nB c) k0 0 s) (hk0 : k0 ≤ 990000) (hps : c.ps.length ≤ 1000) :
    y_t4 c i s = some (res_t4 c i (foldN (bcE (getB (blX c.g) i) (gmCx c.g) c.ps c.w c.fl c.t c.st i) 0 c.ps.length s)) := by
  have hn : (c.ps.length : Int) ≤ maxK .i64 := by show (c.ps.length : Int) ≤ 9223372036854775807; omega
  refine iter_n c.ps.length (fun k s => hd_t4 c i k s) (bcE (getB (blX c.g) i) (gmCx c.g) c.ps c.w c.fl c.t c.st i) (res_t4 c i) (Inv2 (nB c) k0) (fun k s hk hl => ?_) inv_t4 (fun s hl => ?_) c.ps.length 0 s (by omega) hs
  · show (st_t4' c i k s).run = _
    have h1 := hl.m
    have h2 := hl.o
    have h3 := hl.k
    have hcnt : (cnt_t4 c i k s).run = some (stepN (fun k s => hd_t4 c i (k : Nat) s) (res_t4 c i) k (bif stillM (getM s.1 i) then .inl s else
        bif (bmV (getB (blX c.g) i) (getM s.1 i) (getD4 c.ps k) (gmCx c.g)).2.1 == 4 then .inr (bmV (getB (blX c.g) i) (getM s.1 i) (getD4 c.ps k) (gmCx c.g)).2.1 else
        bif (bmV (getB (blX c.g) i) (getM s.1 i) (getD4 c.ps k) (gmCx c.g)).2.1 == 0 then .inl (setA s.1 i (bmV (getB (blX c.g) i) (getM s.1 i) (getD4 c.ps k) (gmCx c.g)).1, s.2.1, s.2.2 ++ [kn c.t c.st 1 i k]) else .inl s)) := by
      unfold cnt_t4 row_t4 appK
      rw [inO_ok (by omega), inN_ok (by omega), inO_ok (by omega), inN_ok (by omega), inO_ok (by omega), show Int.toNat (i : Int) = i from rfl, show Int.toNat (k : Int) = k from rfl, W64_succ hk hn, app_ok (by simp; omega) (by decide)]
      cases stillM (getM s.1 i) with
      | true => rfl
      | false =>
        simp only [cond_false]
        cases (bmV (getB (blX c.g) i) (getM s.1 i) (getD4 c.ps k) (gmCx c.g)).2.1 == 4 with
        | true => rfl
        | false =>
          simp only [cond_false]
          cases (bmV (getB (blX c.g) i) (getM s.1 i) (getD4 c.ps k) (gmCx c.g)).2.1 == 0 <;> rfl
    unfold st_t4' bcE rollB flyB
    rw [decide_eq_true (show (k : Int) < (c.ps.length : Int) by omega), inO_ok (by omega), show Int.toNat (i : Int) = i from rfl, W64_succ hk hn, cond_true, movB_still]
    cases getA s.2.1 i (dflt .b) with
    | true => rfl
    | false =>
      simp only [Bool.not_false, Bool.true_and, cond_true, Bool.not_not]
      cases hw : (i : Int) == c.w with
      | false =>
        simp only [cond_false, Bool.false_and, Bool.or_false]
        rw [hcnt]; rfl
      | true =>
        simp only [cond_true, Bool.true_and]
        cases decide (c.fl > 0) with
        | true => rw [Bool.or_true]; rfl
        | false =>
          simp only [Bool.or_false, cond_false]
          rw [hcnt]; rfl
  · show (st_t4' c i c.ps.length s).run = _
    unfold st_t4'
    rw [decide_eq_false (show ¬ (c.ps.length : Int) < (c.ps.length : Int) by omega)]
    rfl
theorem bc_still {b : TCT cBall} {c : TCT cBnc} {ps : Dss} {w fl t st : Int} {i : Nat} {s : S2} (h : (!rollB s.1 s.2.1 i || flyB w fl i) = true) : ∀ (j k : Nat), foldN (bcE b c ps w fl t st i) k j s = .inl s
  | 0, _ => rfl
  | j + 1, k => by
    unfold foldN
    rw [show bcE b c ps w fl t st i k s = .inl s by unfold bcE; rw [h]; rfl]
    exact bc_still h j (k + 1)
theorem bc_bp {b : TCT cBall} {c : TCT cBnc} {ps : Dss} {os : List Bool} {w fl t st : Int} {i : Nat} : ∀ (j k : Nat) (s : MK), foldN (bcE b c ps w fl t st i) k j (s.1, os, s.2) = upM os (colE (foldN (bpE b c ps os w fl t st i) k j s))
  | 0, _, _ => rfl
  | j + 1, k, s => by
    cases h1 : !rollB s.1 os i || flyB w fl i with
    | true =>
      rw [bc_still (s := (s.1, os, s.2)) h1]
      unfold foldN
      rw [show bpE b c ps os w fl t st i k s = .inr (.inl s) by unfold bpE; rw [h1]; rfl]
      rfl
    | false =>
      unfold foldN
      cases h2 : (bmV b (getM s.1 i) (getD4 ps k) c).2.1 == 0 with
      | true =>
        have h4 : ((bmV b (getM s.1 i) (getD4 ps k) c).2.1 == 4) = false := by rw [beq_iff_eq.1 h2]; rfl
        rw [show bpE b c ps os w fl t st i k s = .inl (setA s.1 i (bmV b (getM s.1 i) (getD4 ps k) c).1, s.2 ++ [kn t st 1 i k]) by unfold bpE; rw [h1, h2]; rfl]
        rw [show bcE b c ps w fl t st i k (s.1, os, s.2) = .inl (setA s.1 i (bmV b (getM s.1 i) (getD4 ps k) c).1, os, s.2 ++ [kn t st 1 i k]) by unfold bcE; simp only; rw [h1, h4, h2]; rfl]
        exact bc_bp j (k + 1) (setA s.1 i (bmV b (getM s.1 i) (getD4 ps k) c).1, s.2 ++ [kn t st 1 i k])
      | false =>
        cases h4 : (bmV b (getM s.1 i) (getD4 ps k) c).2.1 == 4 with
        | true =>
          rw [show bpE b c ps os w fl t st i k s = .inr (.inr (bmV b (getM s.1 i) (getD4 ps k) c).2.1) by unfold bpE; rw [h1, h2, h4]; rfl]
          rw [show bcE b c ps w fl t st i k (s.1, os, s.2) = .inr (bmV b (getM s.1 i) (getD4 ps k) c).2.1 by unfold bcE; simp only; rw [h1, h4]; rfl]
          rfl
        | false =>
          rw [show bpE b c ps os w fl t st i k s = .inl s by unfold bpE; rw [h1, h2, h4]; rfl]
          rw [show bcE b c ps w fl t st i k (s.1, os, s.2) = .inl (s.1, os, s.2) by unfold bcE; simp only; rw [h1, h4, h2]; rfl]
          exact bc_bp j (k + 1) s
def boE2 (bl : List (TCT cBall)) (c : TCT cBnc) (ps : Dss) (w fl t st : Int) (i : Nat) (s : S2) : S2 ⊕ Int := foldN (bcE (getB bl i) c ps w fl t st i) 0 ps.length s
theorem boE2_fold {bl : List (TCT cBall)} {c : TCT cBnc} {ps : Dss} {os : List Bool} {w fl t st : Int} : ∀ (k i : Nat) (s : MK), foldN (boE2 bl c ps w fl t st) i k (s.1, os, s.2) = upM os (foldN (boE bl c ps os w fl t st) i k s)
  | 0, _, _ => rfl
  | k + 1, i, s => by
    unfold foldN
    rw [show boE2 bl c ps w fl t st i (s.1, os, s.2) = upM os (boE bl c ps os w fl t st i s) from bc_bp ps.length 0 s]
    cases boE bl c ps os w fl t st i s with
    | inl s' => exact boE2_fold k (i + 1) s'
    | inr e => rfl
def res_t3 (c : RT) : S2 ⊕ Int → Left' (E_k 9000)
  | .inl s => ex_k 6 9000 c s
  | .inr e => rt_k 9000 e
theorem inv_t3 {bl : List (TCT cBall)} {c : TCT cBnc} {ps : Dss} {w fl t st : Int} {n k0 m : Nat} (i : Nat) (s s' : S2) (_ : i < m) (hl : Inv2 n (k0 + i * ps.length) 0 s) (h : boE2 bl c ps w fl t st i s = .inl s') : Inv2 n (k0 + (i + 1) * ps.length) 0 s' := by
  have a := foldN_inv (n := ps.length) (Inv := Inv2 n (k0 + i * ps.length)) inv_t4 ps.length 0 s s' (by omega) hl h
  have e : (i + 1) * ps.length = i * ps.length + ps.length := Nat.succ_mul i ps.length
  exact ⟨a.m, a.o, by have := a.k; omega⟩
theorem it_t3 {c : RT} {s : S2} {k0 : Nat} (hn8 : nB c ≤ 8) (hs : Inv2 (nB c) k0 0 s) (hk0 : k0 ≤ 900000) (hps : c.ps.length ≤ 1000) :
    iter st_t3 (nB c + 1) (hd_k 19 9000 c 0 s) = some (res_t3 c (foldN (boE2 (blX c.g) (gmCx c.g) c.ps c.w c.fl c.t c.st) 0 (nB c) s)) := by
  have hn : (nB c : Int) ≤ maxK .i64 := by show (nB c : Int) ≤ 9223372036854775807; omega
  refine iter_n (nB c) (fun i s => hd_k 19 9000 c i s) (boE2 (blX c.g) (gmCx c.g) c.ps c.w c.fl c.t c.st) (res_t3 c) (fun i s => Inv2 (nB c) (k0 + i * c.ps.length) 0 s) (fun i s hi hl => ?_) inv_t3 (fun s hl => ?_) (nB c) 0 s (by omega) ⟨hs.m, hs.o, by have := hs.k; omega⟩
  · show (st_t3' c i s).run = _
    have h3 : i * c.ps.length ≤ 8 * 1000 := Nat.mul_le_mul (by omega) hps
    unfold st_t3'
    rw [decide_eq_true (show (i : Int) < (nB c : Int) by omega), it_t4 hi hl (by omega) hps]
    unfold boE2
    cases foldN (bcE (getB (blX c.g) i) (gmCx c.g) c.ps c.w c.fl c.t c.st i) 0 c.ps.length s with
    | inl s' =>
      show (Tree.leaf (.inl (hd_k 19 9000 c (W64 ((i : Int) + 1)) s')) : TK 19 9000).run = _
      rw [W64_succ hi hn]
      rfl
    | inr e => rfl
  · show (st_t3' c (nB c) s).run = _
    unfold st_t3'
    rw [decide_eq_false (show ¬ (nB c : Int) < (nB c : Int) by omega)]
    rfl
end St
end V
end Go.Proofs.YtkiaifmbbnnliaaGreat
