import Derived.Test.YtkiaifmbbnnliaaGreatSb
namespace Go.Proofs.YtkiaifmbbnnliaaGreat
open Go.RowKit
namespace V
noncomputable def Lt_ou : LoopT := fun k => bif Nat.beq k 4 then some (loopSum2 L_in E_in fin_in) else none
def cmO (g : L_ou.T) : Cm := ⟨g.2.1.1.1, g.2.1.2.1.1, g.2.1.2.1.2.1, g.2.1.2.2.1.1, g.2.1.2.2.2.1.1, g.2.1.2.2.2.2.1.1, g.2.1.2.2.2.2.2.2.2.1.1⟩
def ssO (g : L_ou.T) : SS := (g.2.1.2.2.2.2.2.1.1, g.2.1.2.2.2.2.2.2.1.1)
def st_ou (n j : Int) (c : Cm) (s : SS) : Tree (L_ou.T ⊕ Left2 E_ou) :=
  bif decide (j < n) then
    .need (selfL [lk_Se]) (bif okI j (W64 (j + 1)) c s then
      bif okS (inR c.l c.re c.dr j.toNat (c.m - W64 (j + 1)).toNat (W64 (j + 1)).toNat s) then .need (selfL [lk_Se]) (.leaf (.inl (Og n (W64 (j + 1)) c (getS (inR c.l c.re c.dr j.toNat (c.m - W64 (j + 1)).toNat (W64 (j + 1)).toNat s)))))
      else .need (selfL [lk_Sr]) (.leaf (.inr ⟨.ret, Rs 4⟩)) else .fail)
  else .need (selfL [lk_Se]) (.leaf (.inr ⟨.exit 0, Og n j c s⟩))
theorem e_ou (g : L_ou.T) : evC Tryz.prog (evFn X_se 7) X_se.pures 178 X_se.u Lt_ou lb_ou (L_ou.of g) (stepOut2 L_ou E_ou) = st_ou g.1.2.2.1 g.1.2.2.2.1 (cmO g) (ssO g) := by kernel_rfl
def okO (n j : Int) (c : Cm) (s : SS) : Bool := decide (0 ≤ j ∧ j ≤ n ∧ n = c.m ∧ c.m = (c.l.length : Int) ∧ c.l.length ≤ 1000 ∧ s.1.length = c.l.length ∧ s.2.length + (n - j).toNat * 1000 ≤ 1000000)
def fin_ou' (n j : Int) (c : Cm) (s : SS) : Tree (Left2 E_ou) :=
  .br (okO n j c s) (.br (okS (outR c.l c.re c.dr (n - j).toNat j.toNat s)) (.leaf ⟨.exit 0, Og n n c (getS (outR c.l c.re c.dr (n - j).toNat j.toNat s))⟩) (.leaf ⟨.ret, Rs 4⟩)) .fail
def fin_ou (g : L_ou.T) : Tree (Left2 E_ou) := fin_ou' g.1.2.2.1 g.1.2.2.2.1 (cmO g) (ssO g)
theorem outR_zero (l : List (TCT cBall)) (re dr : Int) (i : Nat) (s : SS) : outR l re dr 0 i s = some s := rfl
theorem outR_succ (l : List (TCT cBall)) (re dr : Int) (f i : Nat) (s : SS) : outR l re dr (f + 1) i s = (inR l re dr i (l.length - (i + 1)) (i + 1) s).bind fun s' => outR l re dr f (i + 1) s' := rfl
theorem rnds_ou {step : L_ou.T → Tree (L_ou.T ⊕ Left2 E_ou)} (hs : ∀ n j c s, step (Og n j c s) = st_ou n j c s) (R : Left2 E_ou → Prop) (n : Int) (c : Cm) (hn : n = c.m) (hm : c.m = (c.l.length : Int)) (hl : c.l.length ≤ 1000) (f : Nat) :
    ∀ (j : Int) (s : SS), 0 ≤ j → n - j = f → s.1.length = c.l.length → s.2.length + f * 1000 ≤ 1000000 → (okS (outR c.l c.re c.dr f j.toNat s) = true → R ⟨.exit 0, Og n n c (getS (outR c.l c.re c.dr f j.toNat s))⟩) →
      (okS (outR c.l c.re c.dr f j.toNat s) = false → R ⟨.ret, Rs 4⟩) → Rnds2 L_ou E_ou step R (f + 1) (Og n j c s) := by
  induction f with
  | zero =>
    intro j s _ hk _ _ h1 _
    have e : j = n := by omega
    subst e
    intro _
    rw [hs]
    unfold st_ou
    rw [decide_eq_false (show ¬ j < j by omega)]
    exact ⟨selfL_ok _, fun _ => h1 rfl⟩
  | succ f ih =>
    intro j s hj hk hsl hsh h1 h2
    intro _
    rw [hs]
    unfold st_ou
    rw [outR_succ] at h1 h2
    have hjt : (j + 1).toNat = j.toNat + 1 := by omega
    have hmk : (c.m - (j + 1)).toNat = c.l.length - (j.toNat + 1) := by omega
    have hok : okI j (j + 1) c s = true := decide_eq_true ⟨hj, by omega, by omega, by omega, hm, hl, hsl, by omega⟩
    rw [show W64 (j + 1) = j + 1 from wrap_id (by omega) (by omega), decide_eq_true (show j < n by omega), hok, hjt, hmk]
    refine ⟨selfL_ok _, ?_⟩
    cases he : inR c.l c.re c.dr j.toNat (c.l.length - (j.toNat + 1)) (j.toNat + 1) s with
    | none =>
      rw [he] at h2
      exact ⟨selfL_ok _, fun _ => h2 rfl⟩
    | some s' =>
      rw [he, Option.bind_some] at h1 h2
      have hlen := inR_len _ _ _ _ he
      refine ⟨selfL_ok _, ih (j + 1) s' (by omega) (by omega) (hlen.1.trans hsl) (by omega) ?_ ?_⟩
      · rw [hjt]; exact h1
      · rw [hjt]; exact h2
theorem l_ou : LoopOk Tryz.prog 178 lb_ou (loopSum2 L_ou E_ou fin_ou) := by
  refine loopOk_of2 puSe_ok 7 178 Lt_ou ?_ L_ou E_ou (fun e => by cases e <;> first | exact Nat.le_refl _ | exact (show 900 ≤ 1000 by omega)) fin_ou (fun g => st_ou g.1.2.2.1 g.1.2.2.2.1 (cmO g) (ssO g)) e_ou ?_
  · intro d hd f hf
    have hl : loopsOf lb_ou = [lb_in] := by kernel_rfl
    rw [hl, List.mem_singleton] at hd
    subst hd
    have hk : keyOf lb_in = 4 := by kernel_rfl
    rw [hk] at hf
    have : Lt_ou 4 = some (loopSum2 L_in E_in fin_in) := rfl
    rw [this, Option.some.injEq] at hf
    subst hf
    exact l_in
  intro g R _ hf
  obtain ⟨hf, h0⟩ := hf
  cases hc : okO g.1.2.2.1 g.1.2.2.2.1 (cmO g) (ssO g) with
  | false => exact (h0 hc).elim
  | true =>
    obtain ⟨h1, h2⟩ := hf hc
    obtain ⟨k1, k2, k3, k4, k5, k6, k7⟩ := of_decide_eq_true hc
    exact ⟨_, rnds_ou (fun _ _ _ _ => rfl) R g.1.2.2.1 (cmO g) k3 k4 k5 (g.1.2.2.1 - g.1.2.2.2.1).toNat g.1.2.2.2.1 (ssO g) k1 (Int.toNat_of_nonneg (Int.sub_nonneg.2 k2)).symm k6 k7 h1 h2⟩
theorem is_Settle : FnIs Tryz.prog (114, Tryz.f114) := ⟨Tryz.func114, by kernel_rfl, by kernel_rfl⟩
theorem is_pairs : FnIs Tryz.prog (152, Tryz.f152) := ⟨Tryz.func152, by kernel_rfl, by kernel_rfl⟩
theorem is_pairs1 : FnIs Tryz.prog (178, Tryz.f178) := ⟨Tryz.func178, by kernel_rfl, by kernel_rfl⟩
abbrev RSet := TCTs [.sl cMot, .sl cPair, cI]
def SettleR (l : List (TCT cBall)) (s : List (TCT cMot)) (re dr : Int) : RSet :=
  bif chkR l s != 0 then ([], [], chkR l s, ()) else bif !bncB re dr then ([], [], 2, ()) else
  bif okS (outR l re dr l.length 0 (s, [])) then ((getS (outR l re dr l.length 0 (s, []))).1, (getS (outR l re dr l.length 0 (s, []))).2, 0, ()) else ([], [], 4, ())
def plSet : List (Nat × PureT) := (151, s_lcheck) :: (79, s_CheckBounce) :: plBn
theorem puSet : PuOk Tryz.prog plSet := puOk_cons is_lcheck.plain q_lcheck (puOk_cons is_CheckBounce.plain q_CheckBounce puBn)
noncomputable def X_Settle : Ctx := ctxL Tryz.prog plSet [(114, Tryz.f114), (152, Tryz.f152), (178, Tryz.f178)] [((178, 1), loopSum2 L_ou E_ou fin_ou)]
def T_Settle (l : List (TCT cBall)) (s : List (TCT cMot)) (re dr : Int) : Tree RSet :=
  bif chkR l s != 0 then .leaf ([], [], chkR l s, ()) else bif okE (bncB re dr) != 0 then .leaf ([], [], okE (bncB re dr), ()) else
  bif appOk ([] : List (TCT cMot)) s 48 then
    .need (selfL [lk_Se]) (bif okO (l.length : Int) 0 ⟨l, re, dr, [], [], 0, (l.length : Int)⟩ (s, []) then
      bif okS (outR l re dr ((l.length : Int) - 0).toNat (0 : Int).toNat (s, [])) then .leaf ((getS (outR l re dr ((l.length : Int) - 0).toNat (0 : Int).toNat (s, []))).1, (getS (outR l re dr ((l.length : Int) - 0).toNat (0 : Int).toNat (s, []))).2, 0, ()) else .leaf ([], [], 4, ()) else .fail) else .fail
theorem T_Settle_eq (x : TCTs [.sl cBall, .sl cMot, cBnc]) : evFn X_Settle 7 (.fn 114) (encAs [.sl cBall, .sl cMot, cBnc] x) noHeap 0 (outK Tryz.prog [.sl cMot, .sl cPair, cI]) = T_Settle x.1 x.2.1 x.2.2.1.1 x.2.2.1.2.1 := by kernel_rfl
theorem chk_ok {l : List (TCT cBall)} {s : List (TCT cMot)} (h : chkR l s = 0) : l.length ≤ 8 ∧ l.length = s.length ∧ (l.zip s).all okBM = true := by
  unfold chkR at h
  cases h1 : decide ((l.length : Int) > 8) with
  | true => rw [h1] at h; simp at h
  | false =>
    rw [h1, cond_false] at h
    cases h2 : ((l.length : Int) != (s.length : Int)) with
    | true => rw [h2] at h; simp at h
    | false =>
      rw [h2, cond_false] at h
      have k1 := of_decide_eq_false h1
      have k2 : (l.length : Int) = (s.length : Int) := by simpa using h2
      refine ⟨by omega, by omega, ?_⟩
      cases h3 : (l.zip s).all okBM with
      | true => rfl
      | false => rw [h3] at h; simp [okE] at h
theorem T_Settle_ok (l : List (TCT cBall)) (s : List (TCT cMot)) (re dr : Int) : (T_Settle l s re dr).sat (fun y => y = SettleR l s re dr) := by
  unfold T_Settle SettleR
  cases hc : chkR l s != 0 with
  | true => exact Eq.refl _
  | false =>
    have hc' : chkR l s = 0 := by simpa using hc
    obtain ⟨k1, k2, _⟩ := chk_ok hc'
    unfold okE
    cases hb : bncB re dr with
    | false => exact Eq.refl _
    | true =>
      have ha : appOk ([] : List (TCT cMot)) s 48 = true := by
        rw [appOk_eq]; refine decide_eq_true ?_; simp only [List.length_nil]; omega
      have ho : okO (l.length : Int) 0 ⟨l, re, dr, [], [], 0, (l.length : Int)⟩ (s, []) = true := decide_eq_true ⟨by omega, by omega, rfl, rfl, by show l.length ≤ 1000; omega, k2.symm, by show 0 + ((l.length : Int) - 0).toNat * 1000 ≤ 1000000; omega⟩
      rw [ha, ho, show ((l.length : Int) - 0).toNat = l.length by omega, show (0 : Int).toNat = 0 from rfl]
      refine ⟨selfL_ok _, ?_⟩
      cases okS (outR l re dr l.length 0 (s, [])) <;> exact Eq.refl _
theorem X_Settle_ok : CtxOk X_Settle := by
  refine ctxL_ok mixed puSet (fns_cons is_Settle (fns_cons is_pairs (fns_cons is_pairs1 fns_nil))) ?_
  intro p hp d hd g hg
  simp only [List.mem_cons, List.not_mem_nil, or_false] at hp
  rcases hp with rfl | rfl | rfl
  · simp only [assoc2] at hg
    rw [show Nat.beq 178 114 = false from rfl, Bool.false_and] at hg
    cases hg
  · simp only [assoc2] at hg
    rw [show Nat.beq 178 152 = false from rfl, Bool.false_and] at hg
    cases hg
  · have hl : loopsOf (bodyOf Tryz.f178) = [lb_ou, lb_in] := by kernel_rfl
    simp only at hd hg
    rw [hl] at hd
    simp only [List.mem_cons, List.not_mem_nil, or_false] at hd
    rcases hd with rfl | rfl
    · have hk : keyOf lb_ou = 1 := by kernel_rfl
      rw [hk] at hg
      simp [assoc2] at hg
      subst hg
      exact l_ou
    · have hk : keyOf lb_in = 4 := by kernel_rfl
      rw [hk] at hg
      simp only [assoc2] at hg
      rw [show Nat.beq 1 4 = false from rfl, Bool.and_false] at hg
      cases hg
abbrev s_Settle : PureT := spec [.sl cBall, .sl cMot, cBnc] [.sl cMot, .sl cPair, cI] (fun _ => true) (fun x => ((SettleR x.1 x.2.1 x.2.2.1.1 x.2.2.1.2.1).1, (SettleR x.1 x.2.1 x.2.2.1.1 x.2.2.1.2.1).2.1, (SettleR x.1 x.2.1 x.2.2.1.1 x.2.2.1.2.1).2.2.1, ()))
theorem q_Settle : PureOk Tryz.prog 114 s_Settle := q_by X_Settle_ok 7 (fun x => T_Settle x.1 x.2.1 x.2.2.1.1 x.2.2.1.2.1) (fun x => T_Settle_eq x) fun _ _ _ => T_Settle_ok _ _ _ _
end V
end Go.Proofs.YtkiaifmbbnnliaaGreat
