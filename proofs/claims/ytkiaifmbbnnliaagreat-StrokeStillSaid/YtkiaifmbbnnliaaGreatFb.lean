import Derived.Test.YtkiaifmbbnnliaaGreatFa
namespace Go.Proofs.YtkiaifmbbnnliaaGreat
open Go.RowKit
namespace V
namespace St
theorem bpE_rel {bl : TCT cBall} {c : TCT cBnc} {ps : Dss} {os : List Bool} {w fl t st : Int} {i j k : Nat} {s : MK} : (∀ s', bpE bl c ps os w fl t st j k s = .inl s' → REL i (s.1, os, s.2) (s'.1, os, s'.2)) ∧ (∀ s', bpE bl c ps os w fl t st j k s = .inr (.inl s') → s' = s) := by
  unfold bpE
  cases h1 : rollB s.1 os j with
  | false => exact ⟨(fun s' h => by cases h), (fun s' h => by cases h; rfl)⟩
  | true =>
    cases h0 : flyB w fl j with
    | true => exact ⟨(fun s' h => by cases h), (fun s' h => by cases h; rfl)⟩
    | false =>
      simp only [Bool.not_true, Bool.or_self, cond_false]
      cases h2 : (bmV bl (getM s.1 j) (getD4 ps k) c).2.1 == 0 with
      | true =>
        refine ⟨(fun s' h => ?_), (fun s' h => by cases h)⟩
        cases h
        exact REL.roll h1 tc_more (fun hn => by rw [tcB_app, tc_kn rfl hn, Bool.or_false])
      | false =>
        simp only [cond_false]
        cases h3 : (bmV bl (getM s.1 j) (getD4 ps k) c).2.1 == 4 with
        | true => exact ⟨(fun s' h => by cases h), (fun s' h => by cases h)⟩
        | false => exact ⟨(fun s' h => by cases h; exact .refl), (fun s' h => by cases h)⟩
theorem bpN_rel {bl : TCT cBall} {c : TCT cBnc} {ps : Dss} {os : List Bool} {w fl t st : Int} {i j : Nat} : ∀ (m k : Nat) (s s' : MK), colE (foldN (bpE bl c ps os w fl t st j) k m s) = .inl s' → REL i (s.1, os, s.2) (s'.1, os, s'.2)
  | 0, k, s, s', h => by cases h; exact .refl
  | m + 1, k, s, s', h => by
    unfold foldN at h
    have a := bpE_rel (bl := bl) (c := c) (ps := ps) (os := os) (w := w) (fl := fl) (t := t) (st := st) (i := i) (j := j) (k := k) (s := s)
    cases hf : bpE bl c ps os w fl t st j k s with
    | inl t1 => rw [hf] at h; exact (a.1 t1 hf).trans (bpN_rel m (k + 1) t1 s' h)
    | inr y =>
      rw [hf] at h
      cases y with
      | inl t1 =>
        have e := a.2 t1 hf
        subst e
        cases h
        exact .refl
      | inr e => cases h
theorem buF_rel {bl : List (TCT cBall)} {c : TCT cBnc} {ps : Dss} {t st w fl : Int} {n i : Nat} {s : S2} {s' : MK} (h : buF bl c ps t st w fl n s = .inl s') : REL i s (s'.1, s.2.1, s'.2) := by
  unfold buF at h
  exact foldN_inv (n := n) (Inv := fun _ (x : MK) => REL i s (x.1, s.2.1, x.2)) (fun j x x' _ hx h2 => hx.trans (bpN_rel ps.length 0 x x' h2)) n 0 (s.1, s.2.2) s' (by omega) .refl h
theorem mvF_rel {bl : List (TCT cBall)} {l : TCT cLawn} {t st : Int} {n i : Nat} {s s' : S2} (h : mvF bl l t st n s = .inl s') : REL i s s' := by
  unfold mvF at h
  cases h1 : foldN (stE bl s.2.1) 0 n s.1 with
  | inr e => rw [h1] at h; cases h
  | inl ms =>
    rw [h1] at h
    have a : REL i s (ms, s.2.1, s.2.2) := foldN_inv (n := n) (Inv := fun _ (x : Mots) => REL i s (x, s.2.1, s.2.2)) (fun j x x' _ hx h2 => hx.trans (stE_rel h2)) n 0 s.1 ms (by omega) .refl h1
    have h2 : foldN (lvE l t st) 0 n (ms, s.2.1, s.2.2) = .inl s' := h
    exact foldN_inv (n := n) (Inv := fun _ (x : S2) => REL i s x) (fun j x x' _ hx h3 => hx.trans (lvE_rel h3)) n 0 (ms, s.2.1, s.2.2) s' (by omega) a h2
theorem tkE_rel {k : CT} {i j : Nat} {s s' : S2} (hn8 : k.bl.length ≤ 8) (h : tkE k j s = .inl s') : REL i s s' := by
  unfold tkE at h
  cases h1 : mvF k.bl k.l k.t ((j + 1 : Nat) : Int) k.bl.length s with
  | inr e => rw [h1] at h; cases h
  | inl s1 =>
    rw [h1] at h
    simp only at h
    have a : REL i s s1 := mvF_rel h1
    cases h2 : seF k.bl k.c k.t ((j + 1 : Nat) : Int) k.w k.fl k.bl.length s1 with
    | inr e => rw [h2] at h; cases h
    | inl s2 =>
      rw [h2] at h
      simp only at h
      have b : REL i s1 (s2.1, s1.2.1, s2.2) := seF_rel hn8 h2
      cases h3 : buF k.bl k.c k.ps k.t ((j + 1 : Nat) : Int) k.w k.fl k.bl.length (s2.1, s1.2.1, s2.2) with
      | inr e => rw [h3] at h; cases h
      | inl s3 =>
        rw [h3] at h
        cases h
        have d : REL i (s2.1, s1.2.1, s2.2) (s3.1, s1.2.1, s3.2) := buF_rel h3
        exact (a.trans b).trans d
theorem tkF_rel {k : CT} {i : Nat} {s s' : S2} (hn8 : k.bl.length ≤ 8) (h : tkF k s = .inl s') : REL i s s' := by
  unfold tkF at h
  cases h0 : k.t == 4000 with
  | true => rw [h0] at h; cases h
  | false =>
    rw [h0] at h
    simp only [cond_false] at h
    cases h1 : foldN (slE k.l s.2.1 k.w k.fl) 0 k.bl.length s.1 with
    | inr e => rw [h1] at h; cases h
    | inl ms =>
      rw [h1] at h
      have a : REL i s (ms, s.2.1, s.2.2) := foldN_inv (n := k.bl.length) (Inv := fun _ (x : Mots) => REL i s (x, s.2.1, s.2.2)) (fun j x x' _ hx h2 => hx.trans (slE_rel h2)) k.bl.length 0 s.1 ms (by omega) .refl h1
      have h2 : foldN (tkE k) 0 16 (ms, s.2.1, s.2.2) = .inl s' := h
      exact foldN_inv (n := 16) (Inv := fun _ (x : S2) => REL i s x) (fun j x x' _ hx h3 => hx.trans (tkE_rel hn8 h3)) 16 0 (ms, s.2.1, s.2.2) s' (by omega) a h2
def AS (ms : Mots) : Prop := ∀ j : Nat, restB (getM ms j) = true
theorem AS.roll {ms : Mots} {os : List Bool} {j : Nat} (h : AS ms) : rollB ms os j = false := by
  cases hr : rollB ms os j with
  | false => rfl
  | true =>
    have := (roll_no hr).2
    rw [h j] at this
    cases this
theorem kick_rest {a b : Bm} {re dr : Int} (h1 : a.mx = 0) (h2 : a.my = 0) (h3 : b.mx = 0) (h4 : b.my = 0) : (KickR a b re dr).2.1 = 2 ∨ (KickR a b re dr).2.1 = 5 ∨ (KickR a b re dr).2.1 = 10 := by
  unfold KickR
  cases !(a.ok && (b.ok && bncB re dr)) with
  | true => exact .inl rfl
  | false =>
    cases !closeB a.px a.py b.px b.py (a.r + b.r) with
    | true => exact .inr (.inl rfl)
    | false =>
      have e : uN a b = 0 := by
        unfold uN uX uY
        rw [h1, h2, h3, h4]
        simp
      rw [e]
      exact .inr (.inr rfl)
theorem sStep_rest {l : List (TCT cBall)} {re dr : Int} {i k : Nat} {s : SS} (h : AS s.1) : sStep l re dr i k s = some s := by
  have hi : ∀ j, (bAt l s.1 j).mx = 0 ∧ (bAt l s.1 j).my = 0 := fun j => by
    have := h j
    unfold restB at this
    rw [Bool.and_eq_true, beq_iff_eq, beq_iff_eq] at this
    exact this
  have e : (BounceR (bAt l s.1 i) (bAt l s.1 k) re dr).2.2.1 = (KickR (bAt l s.1 i) (bAt l s.1 k) re dr).2.1 ∧ (KickR (bAt l s.1 i) (bAt l s.1 k) re dr).2.1 ≠ 0 ∧ (KickR (bAt l s.1 i) (bAt l s.1 k) re dr).2.1 ≠ 4 := by
    have a := kick_rest (re := re) (dr := dr) (hi i).1 (hi i).2 (hi k).1 (hi k).2
    have n0 : (KickR (bAt l s.1 i) (bAt l s.1 k) re dr).2.1 ≠ 0 := by rcases a with a | a | a <;> rw [a] <;> decide
    have n4 : (KickR (bAt l s.1 i) (bAt l s.1 k) re dr).2.1 ≠ 4 := by rcases a with a | a | a <;> rw [a] <;> decide
    refine ⟨?_, n0, n4⟩
    unfold BounceR BncOf
    rw [show ((KickR (bAt l s.1 i) (bAt l s.1 k) re dr).2.1 != 0) = true from bne_iff_ne.2 n0]
    rfl
  unfold sStep
  rw [e.1, show ((KickR (bAt l s.1 i) (bAt l s.1 k) re dr).2.1 == 0) = false from beq_eq_false_iff_ne.2 e.2.1, show ((KickR (bAt l s.1 i) (bAt l s.1 k) re dr).2.1 == 4) = false from beq_eq_false_iff_ne.2 e.2.2]
  rfl
theorem inR_rest {l : List (TCT cBall)} {re dr : Int} {i : Nat} : ∀ (f k : Nat) (s : SS), AS s.1 → V.inR l re dr i f k s = some s
  | 0, k, s, _ => by rw [V.inR]
  | f + 1, k, s, h => by rw [V.inR, sStep_rest h, Option.bind_some]; exact inR_rest f (k + 1) s h
theorem outR_rest {l : List (TCT cBall)} {re dr : Int} : ∀ (f i : Nat) (s : SS), AS s.1 → outR l re dr f i s = some s
  | 0, i, s, _ => by rw [outR_zero]
  | f + 1, i, s, h => by rw [outR_succ, inR_rest _ _ s h, Option.bind_some]; exact outR_rest f (i + 1) s h
theorem settle_rest {l : List (TCT cBall)} {s : Mots} {re dr : Int} (h : (SettleR l s re dr).2.2.1 = 0) (ha : AS s) : (SettleR l s re dr).2.1 = [] := by
  unfold SettleR at h ⊢
  cases h1 : chkR l s != 0 with
  | true => rw [h1, cond_true] at h; exact absurd h (bne_iff_ne.1 h1)
  | false =>
    rw [h1, cond_false] at h
    simp only [cond_false]
    cases h2 : !bncB re dr with
    | true => rw [h2] at h; cases h
    | false =>
      simp only [cond_false]
      rw [outR_rest _ _ (s, []) ha]
      rfl
structure NH (s s' : S2) : Prop where
  m : ∀ j : Nat, getM s'.1 j = getM s.1 j
  o : s'.2.1 = s.2.1
  k : s'.2.2 = s.2.2
theorem NH.refl {s : S2} : NH s s := ⟨fun _ => rfl, rfl, rfl⟩
theorem NH.trans {a b c : S2} (h : NH a b) (k : NH b c) : NH a c := ⟨fun j => (k.m j).trans (h.m j), k.o.trans h.o, k.k.trans h.k⟩
theorem NH.as {a b : S2} (h : NH a b) (k : AS a.1) : AS b.1 := fun j => by rw [h.m j]; exact k j
theorem NH.ol {a b : S2} {l : TCT cLawn} {n : Nat} (h : NH a b) (k : OL l n a.1 a.2.1) : OL l n b.1 b.2.1 := fun j hj e => by
  rw [h.m j]; rw [h.o] at e; exact k j hj e
theorem seF_nh {bl : List (TCT cBall)} {c : TCT cBnc} {t st w fl : Int} {n : Nat} {s : S2} {r : Mots × Kns} (hn8 : n ≤ 8) (h : seF bl c t st w fl n s = .inl r) (ha : AS s.1) : NH s (r.1, s.2.1, r.2) := by
  have hr : ∀ i, REL i s (r.1, s.2.1, r.2) := fun i => seF_rel hn8 h
  have hk : r.2 = s.2.2 := by
    unfold seF at h
    cases he : (seS bl c w fl n s).2.2.1 != 0 with
    | true => rw [he] at h; cases h
    | false =>
      rw [he] at h
      cases h
      have hG : InvH s.1 s.2.1 n n (seG bl w fl n s) := gaV_h
      have hA : AS (seG bl w fl n s).2.2 := fun k => by
        by_cases hk : k < (seG bl w fl n s).1.length
        · rw [(hG.h k hk).1]; exact ha _
        · have hm := hG.g.m
          unfold getM
          rw [getA_eq, List.getD_eq_getElem?_getD, List.getElem?_eq_none (by omega)]; rfl
      have e : (seS bl c w fl n s).2.1 = [] := settle_rest (bne_eq_false_iff_eq.1 he) hA
      show kpV _ (seS bl c w fl n s).2.1 t st s.2.2 = s.2.2
      rw [e]; rfl
  refine ⟨fun j => ?_, rfl, hk⟩
  unfold seF at h
  cases he : (seS bl c w fl n s).2.2.1 != 0 with
  | true => rw [he] at h; cases h
  | false =>
    rw [he] at h
    cases h
    have e0 := bne_eq_false_iff_eq.1 he
    have hG : InvH s.1 s.2.1 n n (seG bl w fl n s) := gaV_h
    have hA : AS (seG bl w fl n s).2.2 := fun k => by
      by_cases hk : k < (seG bl w fl n s).1.length
      · rw [(hG.h k hk).1]; exact ha _
      · have hm := hG.g.m
        unfold getM
        rw [getA_eq, List.getD_eq_getElem?_getD, List.getElem?_eq_none (by omega)]; rfl
    have e : (seS bl c w fl n s).2.1 = [] := settle_rest e0 hA
    refine scV_at (ms := s.1) (seG bl w fl n s).1.length 0 s.1 (by omega) (fun k' hk' e2 => ?_) rfl
    have g1 := (hG.h k' hk').1
    rw [e2] at g1
    rw [← g1]
    exact settle_un e0 k' fun p hp => by
      rw [show (SettleR (seG bl w fl n s).2.1 (seG bl w fl n s).2.2 c.1 c.2.1).2.1 = [] from e] at hp
      exact nomatch hp
theorem mvF_nh {bl : List (TCT cBall)} {l : TCT cLawn} {t st : Int} {n : Nat} {s s' : S2} (h : mvF bl l t st n s = .inl s') (ha : AS s.1) (ho : OL l n s.1 s.2.1) : NH s s' := by
  unfold mvF at h
  have e1 : foldN (stE bl s.2.1) 0 n s.1 = .inl s.1 := by
    have : ∀ (k i : Nat), foldN (stE bl s.2.1) i k s.1 = .inl s.1 := fun k => by
      induction k with
      | zero => intro i; rfl
      | succ k ih =>
        intro i
        unfold foldN
        rw [show stE bl s.2.1 i s.1 = .inl s.1 by unfold stE; rw [ha.roll]; rfl]
        exact ih (i + 1)
    exact this n 0
  rw [e1] at h
  have h2 : foldN (lvE l t st) 0 n (s.1, s.2.1, s.2.2) = .inl s' := h
  refine foldN_inv (n := n) (Inv := fun _ (x : S2) => NH s x) (fun j x x' hj hx h3 => ?_) n 0 (s.1, s.2.1, s.2.2) s' (by omega) .refl h2
  have hol := hx.ol ho
  unfold lvE at h3
  cases h4 : getA x.2.1 j (dflt .b) with
  | true => rw [h4] at h3; cases h3; exact hx
  | false =>
    rw [h4, show onB l (getM x.1 j).1 = true from hol j hj h4] at h3
    cases h3
    exact hx
theorem bpN_nh {bl : TCT cBall} {c : TCT cBnc} {ps : Dss} {os : List Bool} {w fl t st : Int} {j : Nat} {s s' : MK} (ha : AS s.1) (h : colE (foldN (bpE bl c ps os w fl t st j) 0 ps.length s) = .inl s') : s' = s := by
  cases hp : ps.length with
  | zero => rw [hp] at h; cases h; rfl
  | succ m =>
    rw [hp] at h
    unfold foldN at h
    have e : bpE bl c ps os w fl t st j 0 s = .inr (.inl s) := by unfold bpE; rw [ha.roll]; rfl
    rw [e] at h
    cases h; rfl
theorem buF_nh {bl : List (TCT cBall)} {c : TCT cBnc} {ps : Dss} {t st w fl : Int} {n : Nat} {s : S2} {s' : MK} (h : buF bl c ps t st w fl n s = .inl s') (ha : AS s.1) : s' = (s.1, s.2.2) := by
  unfold buF at h
  exact foldN_inv (n := n) (Inv := fun _ (x : MK) => x = (s.1, s.2.2)) (fun j x x' _ hx h2 => by
    subst hx
    exact bpN_nh ha h2) n 0 (s.1, s.2.2) s' (by omega) rfl h
theorem tkE_nh {k : CT} {j : Nat} {s s' : S2} (hn8 : k.bl.length ≤ 8) (h : tkE k j s = .inl s') (ha : AS s.1) (ho : OL k.l k.bl.length s.1 s.2.1) : NH s s' := by
  unfold tkE at h
  cases h1 : mvF k.bl k.l k.t ((j + 1 : Nat) : Int) k.bl.length s with
  | inr e => rw [h1] at h; cases h
  | inl s1 =>
    rw [h1] at h
    simp only at h
    have a : NH s s1 := mvF_nh h1 ha ho
    cases h2 : seF k.bl k.c k.t ((j + 1 : Nat) : Int) k.w k.fl k.bl.length s1 with
    | inr e => rw [h2] at h; cases h
    | inl s2 =>
      rw [h2] at h
      simp only at h
      have b : NH s1 (s2.1, s1.2.1, s2.2) := seF_nh hn8 h2 (a.as ha)
      cases h3 : buF k.bl k.c k.ps k.t ((j + 1 : Nat) : Int) k.w k.fl k.bl.length (s2.1, s1.2.1, s2.2) with
      | inr e => rw [h3] at h; cases h
      | inl s3 =>
        rw [h3] at h
        cases h
        have d := buF_nh h3 (b.as (a.as ha))
        subst d
        exact a.trans b
theorem tkF_nh {k : CT} {s s' : S2} (hn8 : k.bl.length ≤ 8) (h : tkF k s = .inl s') (ha : AS s.1) (ho : OL k.l k.bl.length s.1 s.2.1) : NH s s' := by
  unfold tkF at h
  cases h0 : k.t == 4000 with
  | true => rw [h0] at h; cases h
  | false =>
    rw [h0] at h
    simp only [cond_false] at h
    have e1 : foldN (slE k.l s.2.1 k.w k.fl) 0 k.bl.length s.1 = .inl s.1 := by
      have : ∀ (m i : Nat), foldN (slE k.l s.2.1 k.w k.fl) i m s.1 = .inl s.1 := fun m => by
        induction m with
        | zero => intro i; rfl
        | succ m ih =>
          intro i
          unfold foldN
          rw [show slE k.l s.2.1 k.w k.fl i s.1 = .inl s.1 by unfold slE; rw [ha.roll]; rfl]
          exact ih (i + 1)
      exact this _ 0
    rw [e1] at h
    have h2 : foldN (tkE k) 0 16 (s.1, s.2.1, s.2.2) = .inl s' := h
    exact foldN_inv (n := 16) (Inv := fun _ (x : S2) => NH s x) (fun j x x' _ hx h3 => hx.trans (tkE_nh hn8 h3 (hx.as ha) (hx.ol ho))) 16 0 (s.1, s.2.1, s.2.2) s' (by omega) .refl h2
end St
end V
end Go.Proofs.YtkiaifmbbnnliaaGreat
