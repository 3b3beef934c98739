import Derived.Test.YtkiaifmbbnnliaaGreatEp
namespace Go.Proofs.YtkiaifmbbnnliaaGreat
open Go.RowKit
namespace V
namespace St
def tcK (i : Nat) (k : TCT cKn) : Bool := k.2.2.2.1 == (i : Int) || (k.2.2.1 == 0 && k.2.2.2.2.1 == (i : Int))
def tcB (i : Nat) (ks : Kns) : Bool := ks.any (tcK i)
theorem tcB_app {i : Nat} {a b : Kns} : tcB i (a ++ b) = (tcB i a || tcB i b) := List.any_append
structure REL (i : Nat) (s s' : S2) : Prop where
  r0 : tcB i s.2.2 = true → tcB i s'.2.2 = true
  r1 : getO s.2.1 i = true → getO s'.2.1 i = true ∧ (getM s'.1 i).1 = (getM s.1 i).1 ∧ tcB i s'.2.2 = tcB i s.2.2
  r2 : restB (getM s.1 i) = true → tcB i s'.2.2 = false → getM s'.1 i = getM s.1 i ∧ getO s'.2.1 i = getO s.2.1 i
theorem REL.refl {i : Nat} {s : S2} : REL i s s := ⟨id, fun h => ⟨h, rfl, rfl⟩, fun _ _ => ⟨rfl, rfl⟩⟩
theorem REL.trans {i : Nat} {a b c : S2} (h : REL i a b) (k : REL i b c) : REL i a c := by
  refine ⟨fun e => k.r0 (h.r0 e), fun e => ?_, fun e f => ?_⟩
  · obtain ⟨x1, x2, x3⟩ := h.r1 e
    obtain ⟨y1, y2, y3⟩ := k.r1 x1
    exact ⟨y1, y2.trans x2, y3.trans x3⟩
  · have hb : tcB i b.2.2 = false := by
      cases hc : tcB i b.2.2 with
      | false => rfl
      | true => rw [k.r0 hc] at f; cases f
    obtain ⟨x1, x2⟩ := h.r2 e hb
    obtain ⟨y1, y2⟩ := k.r2 (by rw [x1]; exact e) f
    exact ⟨y1.trans x1, y2.trans x2⟩
theorem getM_set2 {l : Mots} {i j : Nat} {x : TCT cMot} (h : ¬ j = i) : getM (setA l i x) j = getM l j := by
  unfold getM
  rcases getA_setA2 (d := dflt cMot) l i j x with e | e
  · rw [setA_eq, getA_eq, getA_eq, List.getD_eq_getElem?_getD, List.getD_eq_getElem?_getD, List.getElem?_set, if_neg (fun e => h e.symm)]
  · exact e
theorem getO_set2 {l : List Bool} {i j : Nat} {x : Bool} (h : ¬ j = i) : getO (setA l i x) j = getO l j := by
  unfold getO
  rw [setA_eq, getA_eq, getA_eq, List.getD_eq_getElem?_getD, List.getD_eq_getElem?_getD, List.getElem?_set, if_neg (fun e => h e.symm)]
theorem roll_no {ms : Mots} {os : List Bool} {i : Nat} (h : rollB ms os i = true) : getO os i = false ∧ restB (getM ms i) = false := by
  unfold rollB at h
  rw [Bool.and_eq_true, movB_eq] at h
  unfold getO getM
  exact ⟨by simpa using h.1, by simpa using h.2⟩
theorem REL.roll {i j : Nat} {ms : Mots} {os : List Bool} {ks ks' : Kns} {x : TCT cMot} (h : rollB ms os j = true) (hk : tcB i ks = true → tcB i ks' = true) (hn : ¬ i = j → tcB i ks' = tcB i ks) : REL i (ms, os, ks) (setA ms j x, os, ks') := by
  obtain ⟨h1, h2⟩ := roll_no h
  refine ⟨hk, fun e => ?_, fun e f => ?_⟩
  · by_cases k : i = j
    · subst k; rw [show getO os i = true from e] at h1; cases h1
    · exact ⟨e, by show (getM (setA ms j x) i).1 = _; rw [getM_set2 k], hn k⟩
  · by_cases k : i = j
    · subst k; rw [show restB (getM ms i) = true from e] at h2; cases h2
    · exact ⟨getM_set2 k, rfl⟩
theorem slE_rel {l : TCT cLawn} {os : List Bool} {w fl : Int} {i j : Nat} {ms ms' : Mots} {ks : Kns} (h : slE l os w fl j ms = .inl ms') : REL i (ms, os, ks) (ms', os, ks) := by
  unfold slE at h
  cases h1 : rollB ms os j with
  | false => rw [h1] at h; cases h; exact .refl
  | true =>
    rw [h1] at h
    cases h0 : flyB w fl j with
    | true => rw [h0] at h; cases h; exact .refl
    | false =>
      rw [h0] at h
      cases h2 : cellE l (getM ms j).1 != 0 with
      | true => rw [h2] at h; cases h
      | false =>
        rw [h2] at h
        cases h3 : (slwV l (getM ms j)).2.1 != 0 with
        | true => rw [h3] at h; cases h
        | false => rw [h3] at h; cases h; exact REL.roll h1 id (fun _ => rfl)
theorem stE_rel {bl : List (TCT cBall)} {os : List Bool} {i j : Nat} {ms ms' : Mots} {ks : Kns} (h : stE bl os j ms = .inl ms') : REL i (ms, os, ks) (ms', os, ks) := by
  unfold stE at h
  cases h1 : rollB ms os j with
  | false => rw [h1] at h; cases h; exact .refl
  | true =>
    rw [h1] at h
    cases h3 : (stpV (getB bl j) (getM ms j)).2.1 != 0 with
    | true => rw [h3] at h; cases h
    | false => rw [h3] at h; cases h; exact REL.roll h1 id (fun _ => rfl)
theorem tc_kn {i j : Nat} {t st k o : Int} (hk : (k == 0) = false) (h : ¬ i = j) : tcB i [kn t st k (j : Int) o] = false := by
  show (tcK i (kn t st k (j : Int) o) || false) = false
  unfold tcK kn
  rw [hk, Bool.false_and, Bool.or_false, Bool.or_false]
  exact beq_eq_false_iff_ne.2 (by show ¬ (j : Int) = (i : Int); omega)
theorem tc_more {i : Nat} {a b : Kns} (h : tcB i a = true) : tcB i (a ++ b) = true := by rw [tcB_app, h]; rfl
theorem lvE_rel {l : TCT cLawn} {t st : Int} {i j : Nat} {s s' : S2} (h : lvE l t st j s = .inl s') : REL i s s' := by
  unfold lvE at h
  cases h1 : getA s.2.1 j (dflt .b) with
  | true => rw [h1] at h; cases h; exact .refl
  | false =>
    rw [h1] at h
    cases h2 : onB l (getM s.1 j).1 with
    | true => rw [h2] at h; cases h; exact .refl
    | false =>
      rw [h2] at h
      cases h
      by_cases k : i = j
      · subst k
        refine ⟨tc_more, fun e => ?_, fun e f => ?_⟩
        · unfold getO at e; rw [h1] at e; cases e
        · have : tcB i (s.2.2 ++ [kn t st 2 (i : Int) 0]) = true := by
            rw [tcB_app]
            have : tcB i [kn t st 2 (i : Int) 0] = true := by
              show (tcK i (kn t st 2 (i : Int) 0) || false) = true
              unfold tcK kn
              rw [beq_self_eq_true]; rfl
            rw [this, Bool.or_true]
          rw [show tcB i (s.2.2 ++ [kn t st 2 (i : Int) 0]) = false from f] at this
          cases this
      · refine ⟨tc_more, fun e => ⟨?_, ?_, ?_⟩, fun e f => ⟨?_, ?_⟩⟩
        · show getO (setA s.2.1 j true) i = true; rw [getO_set2 k]; exact e
        · show (getM (setA s.1 j _) i).1 = _; rw [getM_set2 k]
        · show tcB i (s.2.2 ++ [_]) = _; rw [tcB_app, tc_kn rfl k, Bool.or_false]
        · exact getM_set2 k
        · exact getO_set2 k
def UN (s s' : SS) : Prop := (∀ p ∈ s.2, p ∈ s'.2) ∧ ∀ k : Nat, (∀ p ∈ s'.2, ¬ p.1 = (k : Int) ∧ ¬ p.2.1 = (k : Int)) → getM s'.1 k = getM s.1 k
theorem UN.refl {s : SS} : UN s s := ⟨fun _ h => h, fun _ _ => rfl⟩
theorem UN.trans {a b c : SS} (h : UN a b) (k : UN b c) : UN a c := ⟨fun p hp => k.1 p (h.1 p hp), fun j hj => (k.2 j hj).trans (h.2 j fun p hp => hj p (k.1 p hp))⟩
theorem sStep_un {l : List (TCT cBall)} {re dr : Int} {i k : Nat} {s s' : SS} (h : sStep l re dr i k s = some s') : UN s s' := by
  unfold sStep at h
  cases h1 : (BounceR (bAt l s.1 i) (bAt l s.1 k) re dr).2.2.1 == 0 with
  | true =>
    rw [h1] at h
    simp only [cond_true, Option.some.injEq] at h
    subst h
    refine ⟨fun p hp => List.mem_append.2 (.inl hp), fun j hj => ?_⟩
    have := hj ((i : Int), (k : Int), ()) (List.mem_append.2 (.inr (List.mem_singleton.2 rfl)))
    have n1 : ¬ j = i := fun e => this.1 (by show (i : Int) = (j : Int); omega)
    have n2 : ¬ j = k := fun e => this.2 (by show (k : Int) = (j : Int); omega)
    show getM (setA (setA s.1 i _) k _) j = _
    rw [getM_set2 n2, getM_set2 n1]
  | false =>
    rw [h1, cond_false] at h
    cases h2 : (BounceR (bAt l s.1 i) (bAt l s.1 k) re dr).2.2.1 == 4 with
    | true => rw [h2] at h; simp at h
    | false => rw [h2] at h; simp only [cond_false, Option.some.injEq] at h; subst h; exact .refl
theorem inR_un {l : List (TCT cBall)} {re dr : Int} {i : Nat} : ∀ (f k : Nat) (s s' : SS), V.inR l re dr i f k s = some s' → UN s s'
  | 0, k, s, s', h => by rw [V.inR, Option.some.injEq] at h; subst h; exact .refl
  | f + 1, k, s, s', h => by
    rw [V.inR] at h
    cases h1 : sStep l re dr i k s with
    | none => rw [h1] at h; simp at h
    | some s1 =>
      rw [h1, Option.bind_some] at h
      exact (sStep_un h1).trans (inR_un f (k + 1) s1 s' h)
theorem outR_un {l : List (TCT cBall)} {re dr : Int} : ∀ (f i : Nat) (s s' : SS), outR l re dr f i s = some s' → UN s s'
  | 0, i, s, s', h => by rw [outR_zero, Option.some.injEq] at h; subst h; exact .refl
  | f + 1, i, s, s', h => by
    rw [outR_succ] at h
    cases h1 : V.inR l re dr i (l.length - (i + 1)) (i + 1) s with
    | none => rw [h1] at h; simp at h
    | some s1 =>
      rw [h1, Option.bind_some] at h
      exact (inR_un _ _ _ _ h1).trans (outR_un f (i + 1) s1 s' h)
theorem settle_un {l : List (TCT cBall)} {s : Mots} {re dr : Int} (h : (SettleR l s re dr).2.2.1 = 0) : ∀ k : Nat, (∀ p ∈ (SettleR l s re dr).2.1, ¬ p.1 = (k : Int) ∧ ¬ p.2.1 = (k : Int)) → getM (SettleR l s re dr).1 k = getM s k := by
  unfold SettleR at h ⊢
  cases h1 : chkR l s != 0 with
  | true => rw [h1, cond_true] at h; exact absurd h (bne_iff_ne.1 h1)
  | false =>
    rw [h1, cond_false] at h
    simp only [cond_false]
    cases h2 : !bncB re dr with
    | true => rw [h2] at h; cases h
    | false =>
      rw [h2, cond_false] at h
      simp only [cond_false]
      cases h3 : outR l re dr l.length 0 (s, []) with
      | none => rw [h3] at h; cases h
      | some s' => exact (outR_un _ _ _ _ h3).2
theorem kpN_eq {W : List Int} {P : Prs} {t st : Int} : ∀ (k i : Nat) (ks : Kns), i + k = P.length → ∃ l : Kns, unE (foldN (kpE W P t st) i k ks) = ks ++ l ∧ (∀ x ∈ l, ∃ p ∈ P, x = knP t st W p) ∧ ∀ j, i ≤ j → j < P.length → knP t st W (getP P j) ∈ l
  | 0, i, ks, h => ⟨[], (List.append_nil ks).symm, (fun x hx => nomatch hx), fun j h1 h2 => by omega⟩
  | k + 1, i, ks, h => by
    obtain ⟨l, e1, e2, e3⟩ := kpN_eq (W := W) (P := P) (t := t) (st := st) k (i + 1) (ks ++ [knP t st W (getP P i)]) (by omega)
    refine ⟨knP t st W (getP P i) :: l, ?_, fun x hx => ?_, fun j h1 h2 => ?_⟩
    · show unE (foldN (kpE W P t st) (i + 1) k (ks ++ [knP t st W (getP P i)])) = _
      rw [e1, List.append_assoc]; rfl
    · rcases List.mem_cons.1 hx with rfl | hx
      · exact ⟨_, getA_mem (by omega) _, rfl⟩
      · exact e2 x hx
    · by_cases e : j = i
      · rw [e]; exact List.mem_cons_self
      · exact List.mem_cons_of_mem _ (e3 j (by omega) h2)
theorem toNat_of {a : Int} {i : Nat} (h : a = (i : Int)) : Int.toNat a = i := by omega
theorem of_toNat {a : Int} {i : Nat} (h0 : 0 ≤ a) (h : Int.toNat a = i) : a = (i : Int) := by omega
theorem scV_at {W : List Int} {M ms : Mots} {i : Nat} : ∀ (k j : Nat) (x : Mots), j + k = W.length → (∀ k', k' < W.length → Int.toNat (getA W k' (dflt cI)) = i → getM M k' = getM ms i) → getM x i = getM ms i → getM (unE (foldN (scE W M) j k x)) i = getM ms i
  | 0, _, _, _, _, h => h
  | k + 1, j, x, hk, hw, h => by
    show getM (unE (foldN (scE W M) (j + 1) k (setA x (Int.toNat (getA W j (dflt cI))) (getM M j)))) i = _
    refine scV_at k (j + 1) _ (by omega) hw ?_
    by_cases e : i = Int.toNat (getA W j (dflt cI))
    · show getA (setA x (Int.toNat (getA W j (dflt cI))) (getM M j)) i (dflt cMot) = getM ms i
      rcases getA_setA2 (d := dflt cMot) x (Int.toNat (getA W j (dflt cI))) i (getM M j) with e2 | e2
      · rw [e2]; exact hw j (by omega) e.symm
      · rw [e2]; exact h
    · rw [getM_set2 e]; exact h
theorem seF_rel {bl : List (TCT cBall)} {c : TCT cBnc} {t st w fl : Int} {n i : Nat} {s : S2} {r : Mots × Kns} (hn8 : n ≤ 8) (h : seF bl c t st w fl n s = .inl r) : REL i s (r.1, s.2.1, r.2) := by
  unfold seF at h
  cases he : (seS bl c w fl n s).2.2.1 != 0 with
  | true => rw [he] at h; cases h
  | false =>
    rw [he] at h
    cases h
    have e0 := bne_eq_false_iff_eq.1 he
    have hG : InvH s.1 s.2.1 n n (seG bl w fl n s) := gaV_h
    have hS := seS_ok hn8 e0
    obtain ⟨l, k1, k2, k3⟩ := kpN_eq (W := (seG bl w fl n s).1) (P := (seS bl c w fl n s).2.1) (t := t) (st := st) (seS bl c w fl n s).2.1.length 0 s.2.2 (by omega)
    have hk : kpV (seG bl w fl n s).1 (seS bl c w fl n s).2.1 t st s.2.2 = s.2.2 ++ l := k1
    have hball : ∀ a : Int, 0 ≤ a → a < ((seG bl w fl n s).1.length : Int) → 0 ≤ getA (seG bl w fl n s).1 (Int.toNat a) (dflt cI) ∧ getO s.2.1 (Int.toNat (getA (seG bl w fl n s).1 (Int.toNat a) (dflt cI))) = false := fun a h0 h1 => by
      have hlt : Int.toNat a < (seG bl w fl n s).1.length := by omega
      exact ⟨(hG.g.r _ (getA_mem hlt (dflt cI))).1, (hG.h _ hlt).2⟩
    refine ⟨fun e => ?_, fun e => ⟨e, ?_, ?_⟩, fun e f => ⟨?_, rfl⟩⟩
    · show tcB i (kpV _ _ _ _ _) = true
      rw [hk]; exact tc_more e
    · have : getM (scV (seG bl w fl n s).1 (seS bl c w fl n s).1 s.1) i = getM s.1 i := scV_at (ms := s.1) (seG bl w fl n s).1.length 0 s.1 (by omega) (fun k' hk' e2 => by
        have := (hG.h k' hk').2
        rw [e2, show getO s.2.1 i = true from e] at this
        cases this) rfl
      show (getM (scV _ _ _) i).1 = _
      rw [this]
    · show tcB i (kpV _ _ _ _ _) = _
      rw [hk, tcB_app]
      have : tcB i l = false := by
        unfold tcB
        rw [List.any_eq_false]
        intro x hx
        obtain ⟨p, hp, rfl⟩ := k2 x hx
        have pr : prOk (seG bl w fl n s).1.length p := hS.2.2 p hp
        have b1 := hball p.1 pr.1 (Int.lt_trans pr.2.1 pr.2.2)
        have b2 := hball p.2.1 (Int.le_of_lt (Int.lt_of_le_of_lt pr.1 pr.2.1)) pr.2.2
        unfold tcK knP kn
        intro hc
        simp only [Bool.or_eq_true, Bool.and_eq_true, beq_iff_eq] at hc
        rcases hc with hc | hc
        · have e2 : Int.toNat (getA (seG bl w fl n s).1 (Int.toNat p.1) (dflt cI)) = i := toNat_of hc
          rw [e2, show getO s.2.1 i = true from e] at b1
          cases b1.2
        · have e2 : Int.toNat (getA (seG bl w fl n s).1 (Int.toNat p.2.1) (dflt cI)) = i := toNat_of hc.2
          rw [e2, show getO s.2.1 i = true from e] at b2
          cases b2.2
      rw [this, Bool.or_false]
    · have f' : tcB i (s.2.2 ++ l) = false := by rw [← hk]; exact f
      rw [tcB_app, Bool.or_eq_false_iff] at f'
      refine scV_at (ms := s.1) (seG bl w fl n s).1.length 0 s.1 (by omega) (fun k' hk' e2 => ?_) rfl
      have g1 := (hG.h k' hk').1
      rw [e2] at g1
      rw [← g1]
      refine settle_un e0 k' fun p hp => ?_
      have pr : prOk (seG bl w fl n s).1.length p := hS.2.2 p hp
      obtain ⟨q, hq, hpq⟩ : ∃ q, q < (seS bl c w fl n s).2.1.length ∧ getP (seS bl c w fl n s).2.1 q = p := by
        obtain ⟨q, hq, e⟩ := List.getElem_of_mem hp
        exact ⟨q, hq, (getA_lt hq (dflt cPair)).trans e⟩
      have hx := k3 q (Nat.zero_le _) hq
      rw [hpq] at hx
      have nt : ¬ tcK i (knP t st (seG bl w fl n s).1 p) = true := by
        have := f'.2
        unfold tcB at this
        rw [List.any_eq_false] at this
        exact this _ hx
      have hr := (hG.g.r _ (getA_mem hk' (dflt cI))).1
      refine ⟨fun e3 => nt ?_, fun e3 => nt ?_⟩
      · unfold tcK knP kn
        simp only [Bool.or_eq_true, beq_iff_eq]
        refine .inl ?_
        rw [e3, show Int.toNat (k' : Int) = k' from rfl]
        exact of_toNat hr e2
      · unfold tcK knP kn
        simp only [Bool.or_eq_true, Bool.and_eq_true, beq_iff_eq]
        refine .inr ⟨trivial, ?_⟩
        rw [e3, show Int.toNat (k' : Int) = k' from rfl]
        exact of_toNat hr e2
end St
end V
end Go.Proofs.YtkiaifmbbnnliaaGreat
