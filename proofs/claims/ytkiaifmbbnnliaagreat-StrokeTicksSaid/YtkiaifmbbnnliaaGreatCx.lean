import Derived.Test.YtkiaifmbbnnliaaGreatCw
namespace Go.Proofs.YtkiaifmbbnnliaaGreat
open Go.RowKit
namespace V
namespace St
theorem kpV_app {W : List Int} {P : Prs} {t st : Int} : ∀ (k i : Nat) (ks : Kns), unE (foldN (kpE W P t st) i k ks) = ks ++ unE (foldN (kpE W P t st) i k [])
  | 0, _, ks => (List.append_nil ks).symm
  | k + 1, i, ks => by
    show unE (foldN (kpE W P t st) (i + 1) k (ks ++ [knP t st W (getP P i)])) = ks ++ unE (foldN (kpE W P t st) (i + 1) k ([] ++ [knP t st W (getP P i)]))
    rw [kpV_app k (i + 1) (ks ++ _), kpV_app k (i + 1) ([] ++ _), List.nil_append, List.append_assoc]
def apK (ks : Kns) : MK ⊕ Int → MK ⊕ Int
  | .inl a => .inl (a.1, ks ++ a.2)
  | .inr e => .inr e
theorem seF_app {bl : List (TCT cBall)} {c : TCT cBnc} {t st w fl : Int} {n : Nat} {ms : Mots} {os : List Bool} {ks : Kns} : seF bl c t st w fl n (ms, os, ks) = apK ks (seF bl c t st w fl n (ms, os, [])) := by
  unfold seF
  show (bif (seS bl c w fl n (ms, os, [])).2.2.1 != 0 then _ else _) = _
  cases (seS bl c w fl n (ms, os, [])).2.2.1 != 0 with
  | true => rfl
  | false =>
    show Sum.inl (scV _ _ _, kpV (seG bl w fl n (ms, os, [])).1 (seS bl c w fl n (ms, os, [])).2.1 t st ks) = Sum.inl (_, ks ++ kpV _ _ t st [])
    unfold kpV
    rw [kpV_app _ _ ks]
    rfl
def cAt (c : RT) (i : Int) : RT := ⟨c.g, c.z, c.w, c.fl, c.t, c.ps, i⟩
def ctR (c : RT) : CT := ⟨blX c.g, lwG c.g, gmCx c.g, c.ps, c.w, c.fl, c.t⟩
def res_t0 (c : RT) : S2 ⊕ Int → Left' E_t0
  | .inl s => ⟨.exit 0, (((), (), s.2.2, ()), ((s.1, s.2.1, c.w, c.fl, c.t, ()), c.z, ()))⟩
  | .inr e => ⟨.ret, (((), [], e, ()), (r0, ()))⟩
def ars (c : RT) (s : S2) : FL_rs.T := (((lwG c.g, blX c.g, gmCx c.g, ()), (s.1, s.2.1, c.w, c.fl, c.t, ()), c.t, c.st, ()), ())
theorem Y_rs_ar {c : RT} {s : S2} {k : Nat} (hn8 : nB c ≤ 8) (hs : Inv2 (nB c) k 0 s) : Y_rs (ars c s) = some (seF (blX c.g) (gmCx c.g) c.t c.st c.w c.fl (nB c) (s.1, s.2.1, [])) := by
  have h : okRs (lwG c.g, blX c.g, gmCx c.g, ()) (s.1, s.2.1, c.w, c.fl, c.t, ()) = true := by
    unfold okRs
    simp only [Bool.and_eq_true, decide_eq_true_eq]
    exact ⟨hs.m, hs.o, hn8⟩
  unfold Y_rs
  show (bif okRs (lwG c.g, blX c.g, gmCx c.g, ()) (s.1, s.2.1, c.w, c.fl, c.t, ()) then _ else _) = _
  rw [h]
  rfl
theorem aoT_ok {β : Type} {c : Type} {l1 l2 : List c} {b : Nat} {k : Tree β} (h : l1.length + l2.length ≤ 1000000) (hb : b ≤ 48) : aoT l1 l2 b k = k := by
  unfold aoT
  rw [app_ok h hb]; rfl
theorem k2_run {c : RT} {s : S2} {k : Nat} (hn8 : nB c ≤ 8) (hs : Inv2 (nB c) k 0 s) (hk : k ≤ 890000) (hps : c.ps.length ≤ 1000) (hst : c.st ≤ 16) (hst0 : 0 ≤ c.st) :
    (k2_t0 Y_rs (some (ex_k 4 6000 c s))).run = some (match seF (blX c.g) (gmCx c.g) c.t c.st c.w c.fl (nB c) s with
      | .inr e => .inr (res_t0 c (.inr e))
      | .inl s2 => match buF (blX c.g) (gmCx c.g) c.ps c.t c.st c.w c.fl (nB c) (s2.1, s.2.1, s2.2) with
        | .inr e => .inr (res_t0 c (.inr e))
        | .inl s3 => .inl (hd_t0 (cAt c (c.st + 1)) (s3.1, s.2.1, s3.2))) := by
  have hy := Y_rs_ar hn8 hs
  show (thL (Y_rs (ars c s)) ([], []) re_t0 (k3_t0 (valE (.exit 4) (some (ex_k 4 6000 c s)))) esR).run = _
  rw [show seF (blX c.g) (gmCx c.g) c.t c.st c.w c.fl (nB c) s = apK s.2.2 (seF (blX c.g) (gmCx c.g) c.t c.st c.w c.fl (nB c) (s.1, s.2.1, [])) from seF_app]
  cases h1 : seF (blX c.g) (gmCx c.g) c.t c.st c.w c.fl (nB c) (s.1, s.2.1, []) with
  | inr e =>
    rw [h1] at hy
    rw [thL_r hy (seF_es h1)]
    rfl
  | inl a =>
    rw [h1] at hy
    rw [thL_l hy]
    have ha := seF_inv hn8 (k := 0) (s := (s.1, s.2.1, [])) ⟨hs.m, hs.o, Nat.le_refl _⟩ h1
    have hak := ha.k
    have hsk := hs.k
    show (aoT s.2.2 a.2 40 (k4_t0 (iter st_t3 (nB c + 1) (hd_k 19 9000 c 0 (a.1, s.2.1, s.2.2 ++ a.2))))).run = some (match buF (blX c.g) (gmCx c.g) c.ps c.t c.st c.w c.fl (nB c) (a.1, s.2.1, s.2.2 ++ a.2) with
        | .inr e => .inr (res_t0 c (.inr e))
        | .inl s3 => .inl (hd_t0 (cAt c (c.st + 1)) (s3.1, s.2.1, s3.2)))
    simp only at hak
    rw [aoT_ok (by omega) (by decide), it_t3 (c := c) (s := (a.1, s.2.1, s.2.2 ++ a.2)) (k0 := k + 64) hn8 ⟨ha.m, hs.o, by simp only [List.length_append]; omega⟩ (by omega) hps]
    rw [boE2_fold (nB c) 0 (a.1, s.2.2 ++ a.2)]
    unfold buF
    simp only
    cases foldN (boE (blX c.g) (gmCx c.g) c.ps s.2.1 c.w c.fl c.t c.st) 0 (nB c) (a.1, s.2.2 ++ a.2) with
    | inr e => rfl
    | inl s3 =>
      show (Tree.leaf (.inl (hd_t0 (cAt c (W64 (c.st + 1))) (s3.1, s.2.1, s3.2))) : T0).run = _
      rw [show W64 (c.st + 1) = c.st + 1 from W64_id (by omega) (by omega)]
      rfl
def tk2 (k : CT) (st : Int) (s1 : S2) : S2 ⊕ Int := match seF k.bl k.c k.t st k.w k.fl k.bl.length s1 with
  | .inr e => .inr e
  | .inl s2 => match buF k.bl k.c k.ps k.t st k.w k.fl k.bl.length (s2.1, s1.2.1, s2.2) with
    | .inr e => .inr e
    | .inl s3 => .inl (s3.1, s1.2.1, s3.2)
theorem tkE_r {k : CT} {i : Nat} {s : S2} {e : Int} (h : mvF k.bl k.l k.t ((i + 1 : Nat) : Int) k.bl.length s = .inr e) : tkE k i s = .inr e := by unfold tkE; rw [h]
theorem tkE_l {k : CT} {i : Nat} {s s1 : S2} (h : mvF k.bl k.l k.t ((i + 1 : Nat) : Int) k.bl.length s = .inl s1) : tkE k i s = tk2 k ((i + 1 : Nat) : Int) s1 := by unfold tkE tk2; rw [h]; rfl
theorem mvF_l {bl : List (TCT cBall)} {l : TCT cLawn} {t st : Int} {n : Nat} {s : S2} {ms : Mots} (h : foldN (stE bl s.2.1) 0 n s.1 = .inl ms) : mvF bl l t st n s = foldN (lvE l t st) 0 n (ms, s.2.1, s.2.2) := by unfold mvF; rw [h]
theorem mvF_r {bl : List (TCT cBall)} {l : TCT cLawn} {t st : Int} {n : Nat} {s : S2} {e : Int} (h : foldN (stE bl s.2.1) 0 n s.1 = .inr e) : mvF bl l t st n s = .inr e := by unfold mvF; rw [h]
theorem k2_run' {c : RT} {s : S2} {k i : Nat} (hi : i < 16) (hn8 : nB c ≤ 8) (hs : Inv2 (nB c) k 0 s) (hk : k ≤ 890000) (hps : c.ps.length ≤ 1000) :
    (k2_t0 Y_rs (some (ex_k 4 6000 (cAt c ((i + 1 : Nat) : Int)) s))).run = some (stepN (fun i s => hd_t0 (cAt c ((i + 1 : Nat) : Int)) s) (res_t0 c) i (tk2 (ctR c) ((i + 1 : Nat) : Int) s)) := by
  rw [k2_run (c := cAt c ((i + 1 : Nat) : Int)) (s := s) (k := k) hn8 hs hk hps (by show ((i + 1 : Nat) : Int) ≤ 16; omega) (by show (0 : Int) ≤ ((i + 1 : Nat) : Int); omega)]
  unfold tk2
  show some (match seF (blX c.g) (gmCx c.g) c.t ((i + 1 : Nat) : Int) c.w c.fl (nB c) s with
      | .inr e => (.inr (res_t0 c (.inr e)) : L_t0.T ⊕ Left' E_t0)
      | .inl s2 => match buF (blX c.g) (gmCx c.g) c.ps c.t ((i + 1 : Nat) : Int) c.w c.fl (nB c) (s2.1, s.2.1, s2.2) with
        | .inr e => .inr (res_t0 c (.inr e))
        | .inl s3 => .inl (hd_t0 (cAt c (((i + 1 : Nat) : Int) + 1)) (s3.1, s.2.1, s3.2))) = some (stepN _ _ i (match seF (blX c.g) (gmCx c.g) c.t ((i + 1 : Nat) : Int) c.w c.fl (nB c) s with
      | .inr e => .inr e
      | .inl s2 => match buF (blX c.g) (gmCx c.g) c.ps c.t ((i + 1 : Nat) : Int) c.w c.fl (nB c) (s2.1, s.2.1, s2.2) with
        | .inr e => .inr e
        | .inl s3 => .inl (s3.1, s.2.1, s3.2)))
  cases seF (blX c.g) (gmCx c.g) c.t ((i + 1 : Nat) : Int) c.w c.fl (nB c) s with
  | inr e => rfl
  | inl s2 =>
    simp only
    cases buF (blX c.g) (gmCx c.g) c.ps c.t ((i + 1 : Nat) : Int) c.w c.fl (nB c) (s2.1, s.2.1, s2.2) with
    | inr e => rfl
    | inl s3 => rfl
theorem st_t0_run {c : RT} {s : S2} {k i : Nat} (hi : i < 16) (hn8 : nB c ≤ 8) (hs : Inv2 (nB c) k 0 s) (hk : k ≤ 880000) (hps : c.ps.length ≤ 1000) :
    (st_t0 Y_rs (hd_t0 (cAt c ((i + 1 : Nat) : Int)) s)).run = some (stepN (fun i s => hd_t0 (cAt c ((i + 1 : Nat) : Int)) s) (res_t0 c) i (tkE (ctR c) i s)) := by
  show Tree.run (bif decide (((i + 1 : Nat) : Int) ≤ 16) then k1_t0 Y_rs (iter st_t1 (nB (cAt c ((i + 1 : Nat) : Int)) + 1) (hd_k 12 5000 (cAt c ((i + 1 : Nat) : Int)) 0 s)) else _) = _
  rw [decide_eq_true (show ((i + 1 : Nat) : Int) ≤ 16 by omega), cond_true, it_t1 (c := cAt c ((i + 1 : Nat) : Int)) hn8 hs]
  show Tree.run (k1_t0 Y_rs (some (res_t1 (cAt c ((i + 1 : Nat) : Int)) (foldN (stE2 (blX c.g)) 0 (nB c) (s.1, s.2.1, s.2.2))))) = _
  rw [stE2_fold]
  cases h1 : foldN (stE (blX c.g) s.2.1) 0 (nB c) s.1 with
  | inr e =>
    rw [tkE_r (k := ctR c) (e := e) (mvF_r h1)]
    rfl
  | inl ms =>
    have hm : ms.length = nB c := foldN_inv (n := nB c) (Inv := fun _ (s : Mots) => s.length = nB c) inv_m1 (nB c) 0 _ _ (by omega) hs.m h1
    have hsk := hs.k
    show Tree.run (k2_t0 Y_rs (iter st_t2 (nB (cAt c ((i + 1 : Nat) : Int)) + 1) (hd_k 15 6000 (cAt c ((i + 1 : Nat) : Int)) 0 (ms, s.2.1, s.2.2)))) = _
    rw [it_t2 (c := cAt c ((i + 1 : Nat) : Int)) (s := (ms, s.2.1, s.2.2)) (k := k) hn8 (by omega) ⟨hm, hs.o, hsk⟩]
    obtain ⟨s1, hs1⟩ := foldN_inl (lvE_inl (l := lwG c.g) (t := c.t) (st := ((i + 1 : Nat) : Int))) (nB c) 0 (ms, s.2.1, s.2.2)
    show Tree.run (k2_t0 Y_rs (some (res_t2 (cAt c ((i + 1 : Nat) : Int)) (foldN (lvE (lwG c.g) c.t ((i + 1 : Nat) : Int)) 0 (nB c) (ms, s.2.1, s.2.2))))) = _
    rw [hs1, tkE_l (k := ctR c) (s1 := s1) ((mvF_l h1).trans hs1)]
    have a := foldN_inv (n := nB c) (Inv := Inv2 (nB c) k) inv_m2 (nB c) 0 (ms, s.2.1, s.2.2) s1 (by omega) ⟨hm, hs.o, hsk⟩ hs1
    have hk1 := a.k
    exact k2_run' (k := k + 8) hi hn8 ⟨a.m, a.o, by have : nB c ≤ 8 := hn8; omega⟩ (by omega) hps
theorem it_t0 {c : RT} {s : S2} {k0 : Nat} (hn8 : nB c ≤ 8) (hps : c.ps.length ≤ 1000) (hs : Inv2 (nB c) k0 0 s) (hk0 : k0 ≤ 700000) :
    iter (st_t0 Y_rs) 17 (hd_t0 (cAt c 1) s) = some (res_t0 c (foldN (tkE (ctR c)) 0 16 s)) := by
  refine iter_n 16 (fun i s => hd_t0 (cAt c ((i + 1 : Nat) : Int)) s) (tkE (ctR c)) (res_t0 c) (fun i s => Inv2 (nB c) (k0 + i * 8072) 0 s) (fun i s hi hl => st_t0_run hi hn8 hl (by omega) hps) (fun i s s' hi hl h => tkE_inv (k := ctR c) (k0 := k0) (m := 16) hn8 hps i s s' hi hl h) (fun s hl => ?_) 16 0 s (by omega) ⟨hs.m, hs.o, by have := hs.k; omega⟩
  rfl
end St
end V
end Go.Proofs.YtkiaifmbbnnliaaGreat
