import Derived.Test.YtkiaifmbbnnliaaGreatEo
namespace Go.Proofs.YtkiaifmbbnnliaaGreat
open Go.RowKit
namespace V
namespace St
def SA (G M : Mots) : Prop := ∀ j : Nat, arS (getM G j) (getM M j)
theorem SA.set {G M : Mots} {i : Nat} {x : TCT cMot} (h : SA G M) (hx : arS (getM M i) x) : SA G (setA M i x) := fun j => by
  by_cases hi : i < M.length
  · by_cases e : j = i
    · rw [getM_eq hi e, e]
      exact ⟨hx.1.trans (h i).1, hx.2.trans (h i).2⟩
    · rw [getM_ne hi e]; exact h j
  · have : setA M i x = M := by rw [setA_eq]; exact List.set_eq_of_length_le (Nat.le_of_not_lt hi)
    rw [this]; exact h j
theorem bnc_ar {a b : Bm} {k : RKick} (h : (BncOf a b k).2.2.1 = 0) : (BncOf a b k).1.1 = (a.px, a.py, ()) ∧ (BncOf a b k).1.2.2.1 = (a.rx, a.ry, ()) ∧ (BncOf a b k).2.1.1 = (b.px, b.py, ()) ∧ (BncOf a b k).2.1.2.2.1 = (b.rx, b.ry, ()) := by
  unfold BncOf at h ⊢
  cases h1 : k.2.1 != 0 with
  | true => rw [h1] at h; exact absurd h (bne_iff_ne.1 h1)
  | false =>
    rw [h1] at h
    simp only [cond_false] at h ⊢
    cases h2 : strongB (W64 (a.mx - k.1.1)) (W64 (a.my - k.1.2.1)) with
    | false => rw [h2] at h; cases h
    | true =>
      rw [h2] at h
      simp only [Bool.not_true, cond_false] at h ⊢
      cases h3 : strongB (W64 (b.mx + k.1.1)) (W64 (b.my + k.1.2.1)) with
      | false => rw [h3] at h; cases h
      | true => exact ⟨rfl, rfl, rfl, rfl⟩
theorem sStep_ar {l : List (TCT cBall)} {re dr : Int} {i k : Nat} {G : Mots} {s s' : SS} (hik : ¬ k = i) (h : sStep l re dr i k s = some s') (hs : SA G s.1) : SA G s'.1 := by
  unfold sStep at h
  cases h1 : (BounceR (bAt l s.1 i) (bAt l s.1 k) re dr).2.2.1 == 0 with
  | true =>
    rw [h1] at h
    simp only [cond_true, Option.some.injEq] at h
    subst h
    obtain ⟨b1, b2, b3, b4⟩ := bnc_ar (a := bAt l s.1 i) (b := bAt l s.1 k) (k := KickR (bAt l s.1 i) (bAt l s.1 k) re dr) (beq_iff_eq.1 h1)
    have ha : arS (getM s.1 i) (BounceR (bAt l s.1 i) (bAt l s.1 k) re dr).1 := ⟨b1, b2⟩
    have hb : arS (getM s.1 k) (BounceR (bAt l s.1 i) (bAt l s.1 k) re dr).2.1 := ⟨b3, b4⟩
    refine SA.set (SA.set hs ha) ?_
    by_cases hi : i < s.1.length
    · rw [getM_ne hi hik]; exact hb
    · have : setA s.1 i (BounceR (bAt l s.1 i) (bAt l s.1 k) re dr).1 = s.1 := by rw [setA_eq]; exact List.set_eq_of_length_le (Nat.le_of_not_lt hi)
      rw [this]; exact hb
  | false =>
    rw [h1, cond_false] at h
    cases h2 : (BounceR (bAt l s.1 i) (bAt l s.1 k) re dr).2.2.1 == 4 with
    | true => rw [h2] at h; simp at h
    | false => rw [h2] at h; simp only [cond_false, Option.some.injEq] at h; subst h; exact hs
theorem inR_ar {l : List (TCT cBall)} {re dr : Int} {i : Nat} {G : Mots} : ∀ (f k : Nat) (s s' : SS), i < k → V.inR l re dr i f k s = some s' → SA G s.1 → SA G s'.1
  | 0, k, s, s', _, h, hs => by rw [V.inR, Option.some.injEq] at h; subst h; exact hs
  | f + 1, k, s, s', hk, h, hs => by
    rw [V.inR] at h
    cases h1 : sStep l re dr i k s with
    | none => rw [h1] at h; simp at h
    | some s1 =>
      rw [h1, Option.bind_some] at h
      exact inR_ar f (k + 1) s1 s' (by omega) h (sStep_ar (by omega) h1 hs)
theorem outR_ar {l : List (TCT cBall)} {re dr : Int} {G : Mots} : ∀ (f i : Nat) (s s' : SS), outR l re dr f i s = some s' → SA G s.1 → SA G s'.1
  | 0, i, s, s', h, hs => by rw [outR_zero, Option.some.injEq] at h; subst h; exact hs
  | f + 1, i, s, s', h, hs => by
    rw [outR_succ] at h
    cases h1 : V.inR l re dr i (l.length - (i + 1)) (i + 1) s with
    | none => rw [h1] at h; simp at h
    | some s1 =>
      rw [h1, Option.bind_some] at h
      exact outR_ar f (i + 1) s1 s' h (inR_ar _ _ _ _ (by omega) h1 hs)
theorem settle_ar {l : List (TCT cBall)} {s : Mots} {re dr : Int} (h : (SettleR l s re dr).2.2.1 = 0) : SA s (SettleR l s re dr).1 := by
  unfold SettleR at h ⊢
  cases h1 : chkR l s != 0 with
  | true => rw [h1, cond_true] at h; exact absurd h (bne_iff_ne.1 h1)
  | false =>
    rw [h1, cond_false] at h
    simp only [cond_false]
    cases h2 : !bncB re dr with
    | true => rw [h2] at h; cases h
    | false =>
      rw [h2, cond_false] at h
      simp only [cond_false]
      cases h3 : outR l re dr l.length 0 (s, []) with
      | none => rw [h3] at h; cases h
      | some s' =>
        have hz : SA s ((s, []) : SS).1 := fun j => ⟨rfl, rfl⟩
        exact outR_ar _ _ _ _ h3 hz
structure InvH (ms : Mots) (os : List Bool) (n i : Nat) (s : GA) : Prop where
  g : InvG n i s
  h : ∀ k : Nat, k < s.1.length → getM s.2.2 k = getM ms (Int.toNat (getA s.1 k (dflt cI))) ∧ getO os (Int.toNat (getA s.1 k (dflt cI))) = false
theorem getA_app {α : Type} {d : α} {l : List α} {x : α} {k : Nat} (h : k < l.length + 1) : getA (l ++ [x]) k d = if k = l.length then x else getA l k d := by
  rw [getA_eq, getA_eq, List.getD_eq_getElem?_getD, List.getD_eq_getElem?_getD]
  by_cases e : k = l.length
  · rw [if_pos e, e, List.getElem?_append_right (Nat.le_refl _), Nat.sub_self]; rfl
  · rw [if_neg e, List.getElem?_append_left (by omega)]
theorem inv_h {bl : List (TCT cBall)} {ms : Mots} {os : List Bool} {w fl : Int} {n : Nat} (i : Nat) (s s' : GA) (hi : i < n) (h : InvH ms os n i s) (h2 : gaE bl ms os w fl i s = .inl s') : InvH ms os n (i + 1) s' := by
  have hg := inv_s1 i s s' hi h.g h2
  refine ⟨hg, ?_⟩
  unfold gaE at h2
  cases hc : !getA os i (dflt .b) && !flyB w fl i with
  | false => rw [hc] at h2; cases h2; exact h.h
  | true =>
    rw [hc] at h2
    cases h2
    have hm := h.g.m
    have ho : getO os i = false := by
      unfold getO
      rw [Bool.and_eq_true] at hc
      simpa using hc.1
    intro k hk
    have hk2 : k < (s.1 ++ [(i : Int)]).length := hk
    have hk' : k < s.1.length + 1 := by rw [List.length_append, List.length_singleton] at hk2; exact hk2
    show getA (s.2.2 ++ [getM ms i]) k (dflt cMot) = getM ms (Int.toNat (getA (s.1 ++ [(i : Int)]) k (dflt cI))) ∧ getO os (Int.toNat (getA (s.1 ++ [(i : Int)]) k (dflt cI))) = false
    rw [getA_app (by omega), getA_app hk']
    by_cases e : k = s.1.length
    · rw [if_pos e, if_pos (by omega)]
      exact ⟨rfl, ho⟩
    · rw [if_neg e, if_neg (by omega)]
      exact h.h k (by omega)
theorem gaV_h {bl : List (TCT cBall)} {ms : Mots} {os : List Bool} {w fl : Int} {n : Nat} : InvH ms os n n (gaV bl w fl n ms os) :=
  foldN_inv (n := n) (Inv := InvH ms os n) (fun i s s' hi h h2 => inv_h (bl := bl) (w := w) (fl := fl) i s s' hi h h2) n 0 ([], [], []) _ (by omega) ⟨⟨rfl, rfl, Nat.le_refl _, fun w hw => nomatch hw⟩, fun k hk => absurd hk (Nat.not_lt_zero k)⟩ (unE_eq (foldN (gaE bl ms os w fl) 0 n ([], [], [])))
structure RK (bl : List (TCT cBall)) (n : Nat) (ms0 ms : Mots) (os : List Bool) : Prop where
  q : RQ bl n ms os
  a : ∀ j : Nat, (getM ms j).1 = (getM ms0 j).1
theorem RK.ol {bl : List (TCT cBall)} {l : TCT cLawn} {n : Nat} {ms0 ms : Mots} {os : List Bool} (k : RK bl n ms0 ms os) (p : OL l n ms0 os) : OL l n ms os := fun j hj h => by rw [k.a j]; exact p j hj h
theorem RK.set {bl : List (TCT cBall)} {n i : Nat} {ms0 ms : Mots} {os : List Bool} {x : TCT cMot} (k : RK bl n ms0 ms os) (hi : i < n) (hx : motE (getB bl i) x = true) (ho : getO os i = false) (hp : x.1 = (getM ms0 i).1) : RK bl n ms0 (setA ms i x) os := by
  have hm := k.q.m
  refine ⟨k.q.set hi hx ho, fun j => ?_⟩
  by_cases e : j = i
  · rw [getM_eq (by omega) e, hp, e]
  · rw [getM_ne (by omega) e]; exact k.a j
theorem seF_rk {bl : List (TCT cBall)} {c : TCT cBnc} {t st w fl : Int} {n : Nat} {s : S2} {r : Mots × Kns} (h : seF bl c t st w fl n s = .inl r) (q : RQ bl n s.1 s.2.1) : RK bl n s.1 r.1 s.2.1 := by
  unfold seF at h
  cases he : (seS bl c w fl n s).2.2.1 != 0 with
  | true => rw [he] at h; cases h
  | false =>
    rw [he] at h
    cases h
    have e0 := bne_eq_false_iff_eq.1 he
    have hG : InvH s.1 s.2.1 n n (seG bl w fl n s) := gaV_h
    have hA : SA (seG bl w fl n s).2.2 (seS bl c w fl n s).1 := settle_ar e0
    have hS : SM (seS bl c w fl n s).1 := settle_sm e0
    exact foldN_inv (n := (seG bl w fl n s).1.length) (Inv := fun _ (x : Mots) => RK bl n s.1 x s.2.1) (fun k x x' hk hx h2 => by
      cases h2
      obtain ⟨g1, g2⟩ := hG.h k hk
      have hr := hG.g.r _ (getA_mem hk (dflt cI))
      have hj : Int.toNat (getA (seG bl w fl n s).1 k (dflt cI)) < n := by omega
      have ha := hA k
      rw [g1] at ha
      exact hx.set hj (motE_ar (q.ok _ hj) ha (hS k)) g2 ha.1) (seG bl w fl n s).1.length 0 s.1 _ (by omega) ⟨q, fun _ => rfl⟩ (unE_eq (foldN (scE (seG bl w fl n s).1 (seS bl c w fl n s).1) 0 (seG bl w fl n s).1.length s.1))
theorem bump_mot {b : TCT cBall} {m : TCT cMot} {d : TCT cDisc} {c : TCT cBnc} (h : (bmV b m d c).2.1 = 0) : motE b (bmV b m d c).1 = true ∧ (bmV b m d c).1.1 = m.1 := by
  unfold bmV BumpR at h ⊢
  cases h1 : (bm b m).ok && (u_cdOk d.1.1 d.1.2.1 d.2.1 && bncB c.1 c.2.1) with
  | false => rw [h1] at h; cases h
  | true =>
    rw [h1] at h
    simp only [Bool.not_true, cond_false] at h ⊢
    cases h2 : closeB (bm b m).px (bm b m).py d.1.1 d.1.2.1 ((bm b m).r + d.2.1) with
    | false => rw [h2] at h; cases h
    | true =>
      rw [h2] at h
      simp only [Bool.not_true, cond_false] at h ⊢
      cases h3 : decide (dN (bm b m) d.1.1 d.1.2.1 ≤ 0) with
      | true => rw [h3] at h; cases h
      | false =>
        rw [h3] at h
        simp only [cond_false] at h ⊢
        cases h4 : strongB (W64 ((bm b m).mx - (kK (d.1.1 - (bm b m).px) (d.1.2.1 - (bm b m).py) (bm b m).mx (bm b m).my c.1 c.2.1 1).1)) (W64 ((bm b m).my - (kK (d.1.1 - (bm b m).px) (d.1.2.1 - (bm b m).py) (bm b m).mx (bm b m).my c.1 c.2.1 1).2)) with
        | false => rw [h4] at h; cases h
        | true =>
          simp only [Bool.not_true, cond_false]
          rw [Bool.and_eq_true] at h1
          have hm : motE b m = true := h1.1
          exact ⟨motE_ar hm ⟨rfl, rfl⟩ h4, rfl⟩
theorem bpE_rk {bl : List (TCT cBall)} {c : TCT cBnc} {ps : Dss} {os : List Bool} {w fl t st : Int} {i n k : Nat} {ms0 : Mots} {s : MK} (hi : i < n) (q : RK bl n ms0 s.1 os) : (∀ s', bpE (getB bl i) c ps os w fl t st i k s = .inl s' → RK bl n ms0 s'.1 os) ∧ (∀ s', bpE (getB bl i) c ps os w fl t st i k s = .inr (.inl s') → s' = s) := by
  unfold bpE
  cases h1 : !rollB s.1 os i || flyB w fl i with
  | true => exact ⟨(fun s' h => by cases h), (fun s' h => by cases h; rfl)⟩
  | false =>
    rw [Bool.or_eq_false_iff] at h1
    simp only [cond_false]
    cases h2 : (bmV (getB bl i) (getM s.1 i) (getD4 ps k) c).2.1 == 0 with
    | true =>
      refine ⟨(fun s' h => ?_), (fun s' h => by cases h)⟩
      cases h
      have b := bump_mot (beq_iff_eq.1 h2)
      exact q.set hi b.1 (roll_out h1.1) (b.2.trans (q.a i))
    | false =>
      simp only [cond_false]
      cases h3 : (bmV (getB bl i) (getM s.1 i) (getD4 ps k) c).2.1 == 4 with
      | true => exact ⟨(fun s' h => by cases h), (fun s' h => by cases h)⟩
      | false => exact ⟨(fun s' h => by cases h; exact q), (fun s' h => by cases h)⟩
theorem bpN_rk {bl : List (TCT cBall)} {c : TCT cBnc} {ps : Dss} {os : List Bool} {w fl t st : Int} {i n : Nat} {ms0 : Mots} (hi : i < n) : ∀ (j k : Nat) (s s' : MK), RK bl n ms0 s.1 os → colE (foldN (bpE (getB bl i) c ps os w fl t st i) k j s) = .inl s' → RK bl n ms0 s'.1 os
  | 0, k, s, s', q, h => by cases h; exact q
  | j + 1, k, s, s', q, h => by
    unfold foldN at h
    have a := bpE_rk (c := c) (ps := ps) (w := w) (fl := fl) (t := t) (st := st) (k := k) hi q
    cases hf : bpE (getB bl i) c ps os w fl t st i k s with
    | inl t1 => rw [hf] at h; exact bpN_rk hi j (k + 1) t1 s' (a.1 t1 hf) h
    | inr y =>
      rw [hf] at h
      cases y with
      | inl t1 =>
        have e := a.2 t1 hf
        subst e
        cases h
        exact q
      | inr e => cases h
theorem buF_rk {bl : List (TCT cBall)} {c : TCT cBnc} {ps : Dss} {t st w fl : Int} {n : Nat} {s : S2} {s' : MK} (h : buF bl c ps t st w fl n s = .inl s') (q : RQ bl n s.1 s.2.1) : RK bl n s.1 s'.1 s.2.1 := by
  unfold buF at h
  exact foldN_inv (n := n) (Inv := fun _ (x : MK) => RK bl n s.1 x.1 s.2.1) (fun i x x' hi hx h2 => bpN_rk hi ps.length 0 x x' hx h2) n 0 (s.1, s.2.2) s' (by omega) ⟨q, fun _ => rfl⟩ h
theorem tkE_rq {k : CT} {i : Nat} {s s' : S2} (h : tkE k i s = .inl s') (q : RQ k.bl k.bl.length s.1 s.2.1) : RQ k.bl k.bl.length s'.1 s'.2.1 ∧ OL k.l k.bl.length s'.1 s'.2.1 := by
  unfold tkE at h
  cases h1 : mvF k.bl k.l k.t ((i + 1 : Nat) : Int) k.bl.length s with
  | inr e => rw [h1] at h; cases h
  | inl s1 =>
    rw [h1] at h
    simp only at h
    have a := mvF_rq h1 q
    cases h2 : seF k.bl k.c k.t ((i + 1 : Nat) : Int) k.w k.fl k.bl.length s1 with
    | inr e => rw [h2] at h; cases h
    | inl s2 =>
      rw [h2] at h
      simp only at h
      have b := seF_rk h2 a.1
      cases h3 : buF k.bl k.c k.ps k.t ((i + 1 : Nat) : Int) k.w k.fl k.bl.length (s2.1, s1.2.1, s2.2) with
      | inr e => rw [h3] at h; cases h
      | inl s3 =>
        rw [h3] at h
        cases h
        have d := buF_rk h3 b.q
        exact ⟨d.q, d.ol (b.ol a.2)⟩
theorem tkF_rq {k : CT} {s s' : S2} (h : tkF k s = .inl s') (q : RQ k.bl k.bl.length s.1 s.2.1) (p : OL k.l k.bl.length s.1 s.2.1) : RQ k.bl k.bl.length s'.1 s'.2.1 ∧ OL k.l k.bl.length s'.1 s'.2.1 := by
  unfold tkF at h
  cases h0 : k.t == 4000 with
  | true => rw [h0] at h; cases h
  | false =>
    rw [h0] at h
    simp only [cond_false] at h
    cases h1 : foldN (slE k.l s.2.1 k.w k.fl) 0 k.bl.length s.1 with
    | inr e => rw [h1] at h; cases h
    | inl ms =>
      rw [h1] at h
      have a : RQ k.bl k.bl.length ms s.2.1 ∧ OL k.l k.bl.length ms s.2.1 := foldN_inv (n := k.bl.length) (Inv := fun _ (x : Mots) => RQ k.bl k.bl.length x s.2.1 ∧ OL k.l k.bl.length x s.2.1) (fun i x x' hi hq h => slE_rq hi h hq.1 hq.2) k.bl.length 0 _ _ (by omega) ⟨q, p⟩ h1
      have h2 : foldN (tkE k) 0 16 (ms, s.2.1, s.2.2) = .inl s' := h
      exact foldN_inv (n := 16) (Inv := fun _ (x : S2) => RQ k.bl k.bl.length x.1 x.2.1 ∧ OL k.l k.bl.length x.1 x.2.1) (fun i x x' _ hq h => tkE_rq h hq.1) 16 0 (ms, s.2.1, s.2.2) s' (by omega) a h2
theorem allI_of {α : Type} {ok : Nat → α → Bool} {d : α} : ∀ (l : List α) (i : Nat), (∀ j, j < l.length → ok (i + j) (getA l j d) = true) → allI ok i l = true
  | [], _, _ => rfl
  | x :: l, i, h => by
    unfold allI
    rw [Bool.and_eq_true]
    refine ⟨h 0 (by simp), allI_of (d := d) l (i + 1) fun j hj => ?_⟩
    have := h (j + 1) (by simpa using hj)
    rw [show i + (j + 1) = i + 1 + j by omega] at this
    exact this
theorem allI_at {α : Type} {ok : Nat → α → Bool} {d : α} : ∀ (l : List α) (i : Nat), allI ok i l = true → ∀ j, j < l.length → ok (i + j) (getA l j d) = true
  | [], _, _, j, hj => absurd hj (Nat.not_lt_zero j)
  | x :: l, i, h, j, hj => by
    simp only [allI, Bool.and_eq_true] at h
    cases j with
    | zero => exact h.1
    | succ j =>
      have := allI_at (d := d) l (i + 1) h.2 j (by simpa using hj)
      rw [show i + (j + 1) = i + 1 + j by omega]
      exact this
theorem sta_rq {g : TCT cGr} {s : TCT cSt} (h : StaOk g s) : RQ (ballsG g) (ballsG g).length (msT s) (osT s) ∧ OL g.1 (ballsG g).length (msT s) (osT s) := by
  have hm := h.m
  have key : ∀ j, j < (ballsG g).length → okO g.1 (getB (ballsG g) j) (getO (osT s) j) (getM (msT s) j) = true := fun j hj => by
    have := allI_at (d := dflt cMot) (msT s) 0 h.ok j (by omega)
    rw [Nat.zero_add] at this
    exact this
  refine ⟨⟨h.m, h.o, fun j hj => ?_, fun j hj e => ?_⟩, fun j hj e => ?_⟩
  · have := key j hj
    unfold okO at this
    rw [Bool.and_eq_true] at this
    exact this.1
  · have := key j hj
    unfold okO at this
    rw [e, Bool.and_eq_true, cond_true, Bool.and_true] at this
    exact this.2
  · have := key j hj
    unfold okO at this
    rw [e, Bool.and_eq_true, cond_false] at this
    exact this.2
theorem rq_sta {g : TCT cGr} {s : TCT cSt} (hg : groE g = 0) (n1 : 1 ≤ (ballsG g).length) (n8 : (ballsG g).length ≤ 8) (q : RQ (ballsG g) (ballsG g).length (msT s) (osT s)) (p : OL g.1 (ballsG g).length (msT s) (osT s)) (hn : numS (ballsG g).length s = false) : StaOk g s := by
  have hm := q.m
  refine ⟨hg, n1, n8, q.m, q.o, allI_of (d := dflt cMot) (msT s) 0 fun j hj => ?_, hn⟩
  rw [Nat.zero_add]
  show okO g.1 (getB (ballsG g) j) (getO (osT s) j) (getM (msT s) j) = true
  unfold okO
  rw [q.ok j (by omega), Bool.true_and]
  cases e : getO (osT s) j with
  | true => rw [cond_true, Bool.and_true]; exact q.z j (by omega) e
  | false => rw [cond_false]; exact p j (by omega) e
end St
end V
end Go.Proofs.YtkiaifmbbnnliaaGreat
