import Derived.Test.YtkiaifmbbnnliaaGreatSc
namespace Go.Proofs.YtkiaifmbbnnliaaGreat
open Go.RowKit
namespace V
noncomputable def lb_ri : Code := (loopsOf (bodyOf Tryz.f120)).getD 1 .skip
noncomputable def lb_ro : Code := (loopsOf (bodyOf Tryz.f120)).getD 0 .skip
def L_ri : Lay := { keys := [0, 1, 5, 6, 7, 8, 10, 11, 12, 13], ks := [.d (.sl cBall), .d (.sl cMot), .p 0 0 0 0, .d (.sl cMot), .d (.sl cPair), .d cI, .o 62 cMot, .o 154 cPair, .d cI, .d cI], bs := [(0, 32, [.d cI, .d cI])], n := 86, nx := 1000, marks := [] }
def L_ro : Lay := { keys := [0, 1, 5, 6, 7, 8, 10, 11, 12], ks := [.d (.sl cBall), .d (.sl cMot), .p 0 0 0 0, .d (.sl cMot), .d (.sl cPair), .d cI, .o 62 cMot, .o 154 cPair, .d cI], bs := [(0, 32, [.d cI, .d cI])], n := 86, nx := 900, marks := [] }
def R_ro : Lay := { keys := [6, 7, 8], ks := [.d (.sl cMot), .d (.sl cPair), .d cI], bs := [], n := 86, nx := 1000, marks := [] }
def E_ri : XE → Lay := fun e => match e with | .ret => R_ro | _ => L_ri
def E_ro : XE → Lay := fun e => match e with | .ret => R_ro | _ => L_ro
structure Dm where
  l : List (TCT cBall)
  s0 : List (TCT cMot)
  re : Int
  dr : Int
  r1 : List (TCT cMot)
  r2 : List (TCT cPair)
  r3 : Int
def Jg (i k : Int) (c : Dm) (s : SS) : L_ri.T := ((c.l, c.s0, (), c.r1, c.r2, c.r3, s.1, s.2, i, k, ()), (c.re, c.dr, ()), ())
def Kg (i : Int) (c : Dm) (s : SS) : L_ro.T := ((c.l, c.s0, (), c.r1, c.r2, c.r3, s.1, s.2, i, ()), (c.re, c.dr, ()), ())
def Rr (e : Int) : R_ro.T := (([], [], e, ()), ())
def dmI (g : L_ri.T) : Dm := ⟨g.1.1, g.1.2.1, g.2.1.1, g.2.1.2.1, g.1.2.2.2.1, g.1.2.2.2.2.1, g.1.2.2.2.2.2.1⟩
def dsI (g : L_ri.T) : SS := (g.1.2.2.2.2.2.2.1, g.1.2.2.2.2.2.2.2.1)
def dmO (g : L_ro.T) : Dm := ⟨g.1.1, g.1.2.1, g.2.1.1, g.2.1.2.1, g.1.2.2.2.1, g.1.2.2.2.2.1, g.1.2.2.2.2.2.1⟩
def dsO (g : L_ro.T) : SS := (g.1.2.2.2.2.2.2.1, g.1.2.2.2.2.2.2.2.1)
def st_ri (i k : Int) (c : Dm) (s : SS) : Tree (L_ri.T ⊕ Left' E_ri) :=
  bif decide (k < (c.l.length : Int)) then
  bif decide (0 ≤ i ∧ i < (c.l.length : Int)) then bif decide (0 ≤ i ∧ i < (s.1.length : Int)) then bif decide (i.toNat < s.1.length) then
  bif decide (0 ≤ k ∧ k < (c.l.length : Int)) then bif decide (0 ≤ k ∧ k < (s.1.length : Int)) then bif decide (k.toNat < s.1.length) then
  bif (stB2 c.l s.1 c.re c.dr i k).2.2.1 == 4 then .leaf (.inr ⟨.ret, Rr (stB2 c.l s.1 c.re c.dr i k).2.2.1⟩) else
  bif (stB2 c.l s.1 c.re c.dr i k).2.2.1 == 0 then
    bif decide (0 ≤ i ∧ i < (s.1.length : Int)) then bif decide (i.toNat < s.1.length) then
    bif decide (0 ≤ k ∧ k < ((setA s.1 i.toNat (stB2 c.l s.1 c.re c.dr i k).1).length : Int)) then bif decide (k.toNat < (setA s.1 i.toNat (stB2 c.l s.1 c.re c.dr i k).1).length) then
    bif appOk s.2 [(i, k, ())] 16 then
      .leaf (.inl (Jg i (W64 (k + 1)) c (setA (setA s.1 i.toNat (stB2 c.l s.1 c.re c.dr i k).1) k.toNat (stB2 c.l s.1 c.re c.dr i k).2.1, s.2 ++ [(i, k, ())]))) else .fail else .fail else .fail else .fail else .fail
  else .leaf (.inl (Jg i (W64 (k + 1)) c s))
  else .fail else .fail else .fail else .fail else .fail else .fail
  else .leaf (.inr ⟨.exit 2, Jg i k c s⟩)
def plRSe : List (Nat × PureT) := (157, s_lcheck) :: (158, s_Bounce) :: plRN
theorem puRSe : PuOk Tryz.prog plRSe := puOk_cons is_rlists.plain q_rlists (puOk_cons is_rBounce.plain q_rBounce puRN)
theorem e_ri (g : L_ri.T) : evC Tryz.prog (evFn (ctx Tryz.prog plRSe []) 7) plRSe 120 64 (fun _ => none) lb_ri (L_ri.of g) (stepOut L_ri E_ri) = st_ri g.1.2.2.2.2.2.2.2.2.1 g.1.2.2.2.2.2.2.2.2.2.1 (dmI g) (dsI g) := by kernel_rfl
def okRi (i k : Int) (c : Dm) (s : SS) : Bool := decide (0 ≤ i ∧ i < (c.l.length : Int) ∧ i + 1 ≤ k ∧ k ≤ (c.l.length : Int) ∧ c.l.length ≤ 1000 ∧ s.1.length = c.l.length ∧ s.2.length + ((c.l.length : Int) - k).toNat ≤ 1000000)
def fin_ri' (i k : Int) (c : Dm) (s : SS) : Tree (Left' E_ri) :=
  .br (okRi i k c s) (.br (okS (inR c.l c.re c.dr i.toNat ((c.l.length : Int) - k).toNat k.toNat s)) (.leaf ⟨.exit 2, Jg i (c.l.length : Int) c (getS (inR c.l c.re c.dr i.toNat ((c.l.length : Int) - k).toNat k.toNat s))⟩) (.leaf ⟨.ret, Rr 4⟩)) .fail
def fin_ri (g : L_ri.T) : Tree (Left' E_ri) := fin_ri' g.1.2.2.2.2.2.2.2.2.1 g.1.2.2.2.2.2.2.2.2.2.1 (dmI g) (dsI g)
theorem rnds_ri {step : L_ri.T → Tree (L_ri.T ⊕ Left' E_ri)} (hs : ∀ i k c s, step (Jg i k c s) = st_ri i k c s) (R : Left' E_ri → Prop) (i : Int) (c : Dm) (hi : 0 ≤ i) (hil : i < (c.l.length : Int)) (hl : c.l.length ≤ 1000) (f : Nat) :
    ∀ (k : Int) (s : SS), i + 1 ≤ k → (c.l.length : Int) - k = f → s.1.length = c.l.length → s.2.length + f ≤ 1000000 → (okS (inR c.l c.re c.dr i.toNat f k.toNat s) = true → R ⟨.exit 2, Jg i (c.l.length : Int) c (getS (inR c.l c.re c.dr i.toNat f k.toNat s))⟩) →
      (okS (inR c.l c.re c.dr i.toNat f k.toNat s) = false → R ⟨.ret, Rr 4⟩) → Rnds L_ri E_ri step R (f + 1) (Jg i k c s) := by
  induction f with
  | zero =>
    intro k s _ hk _ _ h1 _
    have e : k = (c.l.length : Int) := by omega
    subst e
    intro _
    rw [hs]
    unfold st_ri
    rw [decide_eq_false (show ¬ (c.l.length : Int) < (c.l.length : Int) by omega)]
    exact fun _ => h1 rfl
  | succ f ih =>
    intro k s hik hk hsl hsh h1 h2
    intro _
    rw [hs]
    unfold st_ri
    rw [inR_succ] at h1 h2
    have hlt : k < (c.l.length : Int) := by omega
    have hkn : ((k.toNat : Nat) : Int) = k := by omega
    have hin : ((i.toNat : Nat) : Int) = i := by omega
    rw [stB2_eq, decide_eq_true hlt, decide_eq_true (show 0 ≤ i ∧ i < (c.l.length : Int) from ⟨hi, hil⟩), decide_eq_true (show 0 ≤ i ∧ i < (s.1.length : Int) by omega), decide_eq_true (show i.toNat < s.1.length by omega),
      decide_eq_true (show 0 ≤ k ∧ k < (c.l.length : Int) by omega), decide_eq_true (show 0 ≤ k ∧ k < (s.1.length : Int) by omega), decide_eq_true (show k.toNat < s.1.length by omega), setA_len, decide_eq_true (show 0 ≤ k ∧ k < (s.1.length : Int) by omega), decide_eq_true (show k.toNat < s.1.length by omega),
      app16 (show s.2.length ≤ 1000000 by omega), show W64 (k + 1) = k + 1 from wrap_id (by omega) (by omega)]
    have hkt : (k + 1).toNat = k.toNat + 1 := by omega
    cases e2 : (BounceR (bAt c.l s.1 i.toNat) (bAt c.l s.1 k.toNat) c.re c.dr).2.2.1 == 4 with
    | true =>
      have e4 := eq_of_beq e2
      have hst : sStep c.l c.re c.dr i.toNat k.toNat s = none := by unfold sStep; rw [e4]; exact Eq.refl _
      rw [hst] at h2
      have := h2 rfl
      rw [← e4] at this
      exact fun _ => this
    | false =>
      cases e1 : (BounceR (bAt c.l s.1 i.toNat) (bAt c.l s.1 k.toNat) c.re c.dr).2.2.1 == 0 with
      | true =>
        have hst : sStep c.l c.re c.dr i.toNat k.toNat s = some (setA (setA s.1 i.toNat (BounceR (bAt c.l s.1 i.toNat) (bAt c.l s.1 k.toNat) c.re c.dr).1) k.toNat (BounceR (bAt c.l s.1 i.toNat) (bAt c.l s.1 k.toNat) c.re c.dr).2.1, s.2 ++ [(i, k, ())]) := by
          unfold sStep; rw [e1, hkn, hin]; rfl
        rw [hst, Option.bind_some] at h1 h2
        refine ih (k + 1) _ (by omega) (by omega) (by simp only [setA_len]; exact hsl) (by simp only [List.length_append, List.length_cons, List.length_nil]; omega) ?_ ?_
        · rw [hkt]; exact h1
        · rw [hkt]; exact h2
      | false =>
        have hst : sStep c.l c.re c.dr i.toNat k.toNat s = some s := by unfold sStep; rw [e1, e2]; rfl
        rw [hst, Option.bind_some] at h1 h2
        refine ih (k + 1) _ (by omega) (by omega) hsl (by omega) ?_ ?_
        · rw [hkt]; exact h1
        · rw [hkt]; exact h2
theorem l_ri : LoopOk Tryz.prog 120 lb_ri (loopSum L_ri E_ri fin_ri) := by
  refine loopOk_of (X := ctx Tryz.prog plRSe []) (ctx_ok mixed puRSe fns_nil) 7 120 (fun _ => none) (fun _ _ f h => by simp at h) L_ri E_ri (fun e => by cases e <;> exact Nat.le_refl _) fin_ri (fun g => st_ri g.1.2.2.2.2.2.2.2.2.1 g.1.2.2.2.2.2.2.2.2.2.1 (dmI g) (dsI g)) e_ri ?_
  intro g R _ hf
  obtain ⟨hf, h0⟩ := hf
  cases hc : okRi g.1.2.2.2.2.2.2.2.2.1 g.1.2.2.2.2.2.2.2.2.2.1 (dmI g) (dsI g) with
  | false => exact (h0 hc).elim
  | true =>
    obtain ⟨h1, h2⟩ := hf hc
    obtain ⟨k1, k2, k3, k4, k6, k7, k8⟩ := of_decide_eq_true hc
    exact ⟨_, rnds_ri (fun _ _ _ _ => rfl) R g.1.2.2.2.2.2.2.2.2.1 (dmI g) k1 k2 k6 (((dmI g).l.length : Int) - g.1.2.2.2.2.2.2.2.2.2.1).toNat g.1.2.2.2.2.2.2.2.2.2.1 (dsI g) k3 (Int.toNat_of_nonneg (Int.sub_nonneg.2 k4)).symm k7 k8 h1 h2⟩
noncomputable def Lt_ro : LoopT := fun k => bif Nat.beq k 12 then some (loopSum L_ri E_ri fin_ri) else none
def st_ro (j : Int) (c : Dm) (s : SS) : Tree (L_ro.T ⊕ Left' E_ro) :=
  bif decide (j < (c.l.length : Int)) then
    bif okRi j (W64 (j + 1)) c s then
      bif okS (inR c.l c.re c.dr j.toNat ((c.l.length : Int) - W64 (j + 1)).toNat (W64 (j + 1)).toNat s) then .leaf (.inl (Kg (W64 (j + 1)) c (getS (inR c.l c.re c.dr j.toNat ((c.l.length : Int) - W64 (j + 1)).toNat (W64 (j + 1)).toNat s))))
      else .leaf (.inr ⟨.ret, Rr 4⟩) else .fail
  else .leaf (.inr ⟨.exit 0, Kg j c s⟩)
theorem e_ro (g : L_ro.T) : evC Tryz.prog (evFn (ctx Tryz.prog plRSe []) 7) plRSe 120 64 Lt_ro lb_ro (L_ro.of g) (stepOut L_ro E_ro) = st_ro g.1.2.2.2.2.2.2.2.2.1 (dmO g) (dsO g) := by kernel_rfl
def okRo (j : Int) (c : Dm) (s : SS) : Bool := decide (0 ≤ j ∧ j ≤ (c.l.length : Int) ∧ c.l.length ≤ 1000 ∧ s.1.length = c.l.length ∧ s.2.length + ((c.l.length : Int) - j).toNat * 1000 ≤ 1000000)
def fin_ro' (j : Int) (c : Dm) (s : SS) : Tree (Left' E_ro) :=
  .br (okRo j c s) (.br (okS (outR c.l c.re c.dr ((c.l.length : Int) - j).toNat j.toNat s)) (.leaf ⟨.exit 0, Kg (c.l.length : Int) c (getS (outR c.l c.re c.dr ((c.l.length : Int) - j).toNat j.toNat s))⟩) (.leaf ⟨.ret, Rr 4⟩)) .fail
def fin_ro (g : L_ro.T) : Tree (Left' E_ro) := fin_ro' g.1.2.2.2.2.2.2.2.2.1 (dmO g) (dsO g)
theorem rnds_ro {step : L_ro.T → Tree (L_ro.T ⊕ Left' E_ro)} (hs : ∀ j c s, step (Kg j c s) = st_ro j c s) (R : Left' E_ro → Prop) (c : Dm) (hl : c.l.length ≤ 1000) (f : Nat) :
    ∀ (j : Int) (s : SS), 0 ≤ j → (c.l.length : Int) - j = f → s.1.length = c.l.length → s.2.length + f * 1000 ≤ 1000000 → (okS (outR c.l c.re c.dr f j.toNat s) = true → R ⟨.exit 0, Kg (c.l.length : Int) c (getS (outR c.l c.re c.dr f j.toNat s))⟩) →
      (okS (outR c.l c.re c.dr f j.toNat s) = false → R ⟨.ret, Rr 4⟩) → Rnds L_ro E_ro step R (f + 1) (Kg j c s) := by
  induction f with
  | zero =>
    intro j s _ hk _ _ h1 _
    have e : j = (c.l.length : Int) := by omega
    subst e
    intro _
    rw [hs]
    unfold st_ro
    rw [decide_eq_false (show ¬ (c.l.length : Int) < (c.l.length : Int) by omega)]
    exact fun _ => h1 rfl
  | succ f ih =>
    intro j s hj hk hsl hsh h1 h2
    intro _
    rw [hs]
    unfold st_ro
    rw [outR_succ] at h1 h2
    have hjt : (j + 1).toNat = j.toNat + 1 := by omega
    have hmk : ((c.l.length : Int) - (j + 1)).toNat = c.l.length - (j.toNat + 1) := by omega
    have hok : okRi j (j + 1) c s = true := decide_eq_true ⟨hj, by omega, by omega, by omega, hl, hsl, by omega⟩
    rw [show W64 (j + 1) = j + 1 from wrap_id (by omega) (by omega), decide_eq_true (show j < (c.l.length : Int) by omega), hok, hjt, hmk]
    cases he : inR c.l c.re c.dr j.toNat (c.l.length - (j.toNat + 1)) (j.toNat + 1) s with
    | none =>
      rw [he] at h2
      exact fun _ => h2 rfl
    | some s' =>
      rw [he, Option.bind_some] at h1 h2
      have hlen := inR_len _ _ _ _ he
      refine ih (j + 1) s' (by omega) (by omega) (hlen.1.trans hsl) (by omega) ?_ ?_
      · rw [hjt]; exact h1
      · rw [hjt]; exact h2
theorem l_ro : LoopOk Tryz.prog 120 lb_ro (loopSum L_ro E_ro fin_ro) := by
  refine loopOk_of (X := ctx Tryz.prog plRSe []) (ctx_ok mixed puRSe fns_nil) 7 120 Lt_ro ?_ L_ro E_ro (fun e => by cases e <;> first | exact Nat.le_refl _ | exact (show 900 ≤ 1000 by omega)) fin_ro (fun g => st_ro g.1.2.2.2.2.2.2.2.2.1 (dmO g) (dsO g)) e_ro ?_
  · intro d hd f hf
    have hl : loopsOf lb_ro = [lb_ri] := by kernel_rfl
    rw [hl, List.mem_singleton] at hd
    subst hd
    have hk : keyOf lb_ri = 12 := by kernel_rfl
    rw [hk] at hf
    have : Lt_ro 12 = some (loopSum L_ri E_ri fin_ri) := rfl
    rw [this, Option.some.injEq] at hf
    subst hf
    exact l_ri
  intro g R _ hf
  obtain ⟨hf, h0⟩ := hf
  cases hc : okRo g.1.2.2.2.2.2.2.2.2.1 (dmO g) (dsO g) with
  | false => exact (h0 hc).elim
  | true =>
    obtain ⟨h1, h2⟩ := hf hc
    obtain ⟨k1, k2, k5, k6, k7⟩ := of_decide_eq_true hc
    exact ⟨_, rnds_ro (fun _ _ _ => rfl) R (dmO g) k5 (((dmO g).l.length : Int) - g.1.2.2.2.2.2.2.2.2.1).toNat g.1.2.2.2.2.2.2.2.2.1 (dsO g) k1 (Int.toNat_of_nonneg (Int.sub_nonneg.2 k2)).symm k6 k7 h1 h2⟩
theorem is_rSettle : FnIs Tryz.prog (120, Tryz.f120) := ⟨Tryz.func120, by kernel_rfl, by kernel_rfl⟩
noncomputable def X_rSettle : Ctx := ctxL Tryz.prog plRSe [(120, Tryz.f120)] [((120, 9), loopSum L_ro E_ro fin_ro)]
theorem X_rSettle_ok : CtxOk X_rSettle := by
  refine ctxL_ok mixed puRSe (fns_cons is_rSettle fns_nil) ?_
  intro p hp d hd g hg
  simp only [List.mem_singleton] at hp
  subst hp
  have hl : loopsOf (bodyOf Tryz.f120) = [lb_ro, lb_ri] := by kernel_rfl
  simp only at hd hg
  rw [hl] at hd
  simp only [List.mem_cons, List.not_mem_nil, or_false] at hd
  rcases hd with rfl | rfl
  · have hk : keyOf lb_ro = 9 := by kernel_rfl
    rw [hk] at hg
    simp [assoc2] at hg
    subst hg
    exact l_ro
  · have hk : keyOf lb_ri = 12 := by kernel_rfl
    rw [hk] at hg
    simp only [assoc2] at hg
    rw [show Nat.beq 9 12 = false from rfl, Bool.and_false] at hg
    cases hg
def T_rSettle (l : List (TCT cBall)) (s : List (TCT cMot)) (re dr : Int) : Tree RSet :=
  bif chkR l s != 0 then .leaf ([], [], chkR l s, ()) else bif okE (bncB re dr) != 0 then .leaf ([], [], 2, ()) else
  bif appOk ([] : List (TCT cMot)) s 48 then
    bif okRo 0 ⟨l, s, re, dr, [], [], 0⟩ (s, []) then
      bif okS (outR l re dr ((l.length : Int) - 0).toNat (0 : Int).toNat (s, [])) then .leaf ((getS (outR l re dr ((l.length : Int) - 0).toNat (0 : Int).toNat (s, []))).1, (getS (outR l re dr ((l.length : Int) - 0).toNat (0 : Int).toNat (s, []))).2, 0, ()) else .leaf ([], [], 4, ()) else .fail else .fail
theorem T_rSettle_eq (x : TCTs [.sl cBall, .sl cMot, cBnc]) : evFn X_rSettle 7 (.fn 120) (encAs [.sl cBall, .sl cMot, cBnc] x) noHeap 0 (outK Tryz.prog [.sl cMot, .sl cPair, cI]) = T_rSettle x.1 x.2.1 x.2.2.1.1 x.2.2.1.2.1 := by kernel_rfl
theorem T_rSettle_ok (l : List (TCT cBall)) (s : List (TCT cMot)) (re dr : Int) : (T_rSettle l s re dr).sat (fun y => y = SettleR l s re dr) := by
  unfold T_rSettle SettleR
  cases hc : chkR l s != 0 with
  | true => exact Eq.refl _
  | false =>
    have hc' : chkR l s = 0 := by simpa using hc
    obtain ⟨k1, k2, _⟩ := chk_ok hc'
    unfold okE
    cases hb : bncB re dr with
    | false => exact Eq.refl _
    | true =>
      have ha : appOk ([] : List (TCT cMot)) s 48 = true := by
        rw [appOk_eq]; refine decide_eq_true ?_; simp only [List.length_nil]; omega
      have ho : okRo 0 ⟨l, s, re, dr, [], [], 0⟩ (s, []) = true := decide_eq_true ⟨by omega, by show (0 : Int) ≤ (l.length : Int); omega, by show l.length ≤ 1000; omega, k2.symm, by show 0 + ((l.length : Int) - 0).toNat * 1000 ≤ 1000000; omega⟩
      rw [ha, ho, show ((l.length : Int) - 0).toNat = l.length by omega, show (0 : Int).toNat = 0 from rfl]
      cases okS (outR l re dr l.length 0 (s, [])) <;> exact Eq.refl _
theorem q_rSettle : PureOk Tryz.prog 120 s_Settle := q_by X_rSettle_ok 7 (fun x => T_rSettle x.1 x.2.1 x.2.2.1.1 x.2.2.1.2.1) (fun x => T_rSettle_eq x) fun _ _ _ => T_rSettle_ok _ _ _ _
end V
end Go.Proofs.YtkiaifmbbnnliaaGreat
