/- The law ContactSettles: for all arguments it returns true. -/
import Derived.Test.YtmmhbianajpdgaaSe
import Derived.Test.YtmmhbianajpdgaaOb
namespace Go.Proofs.Ytmmhbianajpdgaa
open Go.RowKit
namespace V
theorem is_ContactSettles : FnIs Try.prog (10, Try.f10) := ⟨Try.func10, by kernel_rfl, by kernel_rfl⟩
def plLs : List (Nat × PureT) := (38, s_Settle) :: (39, s_Settle) :: (40, s_Total) :: (41, s_Total) :: plL
theorem puLs : PuOk Try.prog plLs := puOk_cons is_Settle.plain q_Settle (puOk_cons is_rSettle.plain q_rSettle (puOk_cons is_Total.plain q_Total (puOk_cons is_rTotal.plain q_rTotal puL)))
noncomputable def lbS (i : Nat) : Code := (loopsOf (bodyOf Try.f10)).getD i .skip
abbrev ksS : List SK := [.d (.sl cBall), .d (.sl cMot), .p 0 0 0 0, .d .b, .o 27 cMot, .d (.sl cMot), .d (.sl cPair), .d cI, .d (.sl cMot), .d (.sl cPair), .d cI]
def bsS : List BK := [(0, 29, [.d cI, .d cI])]
def L_sE (m : Nat) : Lay := { keys := [0, 1, 5, 6, 7, 8, 9, 10, 11, 12, 13], ks := ksS, bs := bsS, n := 132, nx := m, marks := [] }
def L_sH (k m : Nat) : Lay := { keys := [k, 0, 1, 5, 6, 7, 8, 9, 10, 11, 12, 13], ks := .d cI :: ksS, bs := bsS, n := 132, nx := m, marks := [] }
structure Sm where
  l : List (TCT cBall)
  s : List (TCT cMot)
  rb : Bool
  w : List (TCT cMot)
  a : List (TCT cMot)
  p : List (TCT cPair)
  e : Int
  b : List (TCT cMot)
  q : List (TCT cPair)
  f : Int
  re : Int
  dr : Int
def kS (c : Sm) : SKTs ksS := (c.l, c.s, (), c.rb, c.w, c.a, c.p, c.e, c.b, c.q, c.f, ())
def gE {m : Nat} (c : Sm) : (L_sE m).T := (kS c, (c.re, c.dr, ()), ())
def gH {k m : Nat} (i : Int) (c : Sm) : (L_sH k m).T := ((i, kS c), (c.re, c.dr, ()), ())
def smOf (y : SKTs ksS) (z : BTs bsS) : Sm := ⟨y.1, y.2.1, y.2.2.2.1, y.2.2.2.2.1, y.2.2.2.2.2.1, y.2.2.2.2.2.2.1, y.2.2.2.2.2.2.2.1, y.2.2.2.2.2.2.2.2.1, y.2.2.2.2.2.2.2.2.2.1, y.2.2.2.2.2.2.2.2.2.2.1, z.1.1, z.1.2.1⟩
def EeS (m : Nat) : XE → Lay := fun _ => L_sE m
/-- one of the three loops: the lists, what is told apart -/
def st_l1 (i : Int) (c : Sm) : Tree ((L_sH 14 1000).T ⊕ Left' (EeS 1000)) :=
  bif decide (i < (c.a.length : Int)) then bif decide (0 ≤ i ∧ i < (c.a.length : Int)) then bif decide (0 ≤ i ∧ i < (c.b.length : Int)) then
    bif !eqM (getA c.a i.toNat (dflt cMot)) (getA c.b i.toNat (dflt cMot)) then .leaf (.inr ⟨.ret, gE { c with rb := false }⟩) else .leaf (.inl (gH (W64 (i + 1)) c)) else .fail else .fail else .leaf (.inr ⟨.exit 0, gE c⟩)
def st_l2 (i : Int) (c : Sm) : Tree ((L_sH 15 1100).T ⊕ Left' (EeS 1100)) :=
  bif decide (i < (c.p.length : Int)) then bif decide (0 ≤ i ∧ i < (c.p.length : Int)) then bif decide (0 ≤ i ∧ i < (c.q.length : Int)) then
    bif !eqP (getA c.p i.toNat (dflt cPair)) (getA c.q i.toNat (dflt cPair)) then .leaf (.inr ⟨.ret, gE { c with rb := false }⟩) else .leaf (.inl (gH (W64 (i + 1)) c)) else .fail else .fail else .leaf (.inr ⟨.exit 2, gE c⟩)
def st_l3 (i : Int) (c : Sm) : Tree ((L_sH 16 1200).T ⊕ Left' (EeS 1200)) :=
  bif decide (i < (c.s.length : Int)) then bif decide (0 ≤ i ∧ i < (c.s.length : Int)) then bif decide (0 ≤ i ∧ i < (c.w.length : Int)) then bif decide (i.toNat < c.w.length) then
    bif !eqM (getA c.s i.toNat (dflt cMot)) (getA c.w i.toNat (dflt cMot)) then .leaf (.inr ⟨.ret, gE { c with rb := false }⟩) else .leaf (.inl (gH (W64 (i + 1)) c)) else .fail else .fail else .fail else .leaf (.inr ⟨.exit 4, gE c⟩)
noncomputable def X_ls : Ctx := ctx Try.prog plLs []
theorem e_l1 (g : (L_sH 14 1000).T) : evC Try.prog (evFn X_ls 7) plLs 10 64 (fun _ => none) (lbS 0) ((L_sH 14 1000).of g) (stepOut (L_sH 14 1000) (EeS 1000)) = st_l1 g.1.1 (smOf g.1.2 g.2) := by kernel_rfl
theorem e_l2 (g : (L_sH 15 1100).T) : evC Try.prog (evFn X_ls 7) plLs 10 64 (fun _ => none) (lbS 1) ((L_sH 15 1100).of g) (stepOut (L_sH 15 1100) (EeS 1100)) = st_l2 g.1.1 (smOf g.1.2 g.2) := by kernel_rfl
theorem e_l3 (g : (L_sH 16 1200).T) : evC Try.prog (evFn X_ls 7) plLs 10 64 (fun _ => none) (lbS 2) ((L_sH 16 1200).of g) (stepOut (L_sH 16 1200) (EeS 1200)) = st_l3 g.1.1 (smOf g.1.2 g.2) := by kernel_rfl
def fin_l1 (g : (L_sH 14 1000).T) : Tree (Left' (EeS 1000)) := .need ((smOf g.1.2 g.2).a = (smOf g.1.2 g.2).b ∧ g.1.1 = 0) (.leaf ⟨.exit 0, gE (smOf g.1.2 g.2)⟩)
def fin_l2 (g : (L_sH 15 1100).T) : Tree (Left' (EeS 1100)) := .need ((smOf g.1.2 g.2).p = (smOf g.1.2 g.2).q ∧ g.1.1 = 0) (.leaf ⟨.exit 2, gE (smOf g.1.2 g.2)⟩)
def fin_l3 (g : (L_sH 16 1200).T) : Tree (Left' (EeS 1200)) := .need ((smOf g.1.2 g.2).s = (smOf g.1.2 g.2).w ∧ g.1.1 = 0) (.leaf ⟨.exit 4, gE (smOf g.1.2 g.2)⟩)
theorem run_all {α B : Type} (b : B) : ∀ (l : List α) (i : Nat), runL (fun (_ : α) (_ : Nat) (_ : Unit) => (.inl () : Unit ⊕ B)) (fun _ => b) l i () = b
  | [], _ => rfl
  | _ :: l, i => run_all b l (i + 1)
theorem l_l1 : LoopOk Try.prog 10 (lbS 0) (loopSum (L_sH 14 1000) (EeS 1000) fin_l1) := by
  refine loopOk_of (X := X_ls) (ctx_ok mixed puLs fns_nil) 7 10 (fun _ => none) (fun _ _ f h => by simp at h) (L_sH 14 1000) (EeS 1000) (fun _ => Nat.le_refl _) fin_l1 (fun g => st_l1 g.1.1 (smOf g.1.2 g.2)) e_l1 ?_
  rintro ⟨⟨i, y⟩, z⟩ R hw ⟨⟨h1, h2⟩, hf⟩
  have hlen : ((smOf y z).a.length : Int) ≤ maxK .i64 := by
    have : WFKs (.d cI :: ksS) (i, y) := hw.1
    simp only [WFKs, WFK, WFD] at this
    exact this.2.2.2.2.2.2.1.1
  simp only at h1 h2 hf
  subst h2
  refine ⟨_, rnds_runL (L := L_sH 14 1000) (smOf y z).a (fun i _ => gH i (smOf y z)) (fun _ _ _ => .inl ()) (fun _ => ⟨.exit 0, gE (smOf y z)⟩) (fun _ => True) ?_ ?_ (smOf y z).a.length 0 () (by omega) trivial (by rw [List.drop_zero, run_all]; exact hf)⟩
  · intro i _ hi Q _ _ hQ
    show (st_l1 i (smOf y z)).sat Q
    unfold st_l1
    rw [← h1, decide_eq_true (show (i : Int) < ((smOf y z).a.length : Int) by omega), decide_eq_true (show 0 ≤ (i : Int) ∧ (i : Int) < ((smOf y z).a.length : Int) by omega), eqM_self, succ64 hi hlen]
    exact hQ trivial
  · intro _ Q _ hQ
    show (st_l1 ((smOf y z).a.length : Nat) (smOf y z)).sat Q
    unfold st_l1
    rw [decide_eq_false (show ¬ ((smOf y z).a.length : Int) < ((smOf y z).a.length : Int) by omega)]
    exact hQ
theorem l_l2 : LoopOk Try.prog 10 (lbS 1) (loopSum (L_sH 15 1100) (EeS 1100) fin_l2) := by
  refine loopOk_of (X := X_ls) (ctx_ok mixed puLs fns_nil) 7 10 (fun _ => none) (fun _ _ f h => by simp at h) (L_sH 15 1100) (EeS 1100) (fun _ => Nat.le_refl _) fin_l2 (fun g => st_l2 g.1.1 (smOf g.1.2 g.2)) e_l2 ?_
  rintro ⟨⟨i, y⟩, z⟩ R hw ⟨⟨h1, h2⟩, hf⟩
  have hlen : ((smOf y z).p.length : Int) ≤ maxK .i64 := by
    have : WFKs (.d cI :: ksS) (i, y) := hw.1
    simp only [WFKs, WFK, WFD] at this
    exact this.2.2.2.2.2.2.2.1.1
  simp only at h1 h2 hf
  subst h2
  refine ⟨_, rnds_runL (L := L_sH 15 1100) (smOf y z).p (fun i _ => gH i (smOf y z)) (fun _ _ _ => .inl ()) (fun _ => ⟨.exit 2, gE (smOf y z)⟩) (fun _ => True) ?_ ?_ (smOf y z).p.length 0 () (by omega) trivial (by rw [List.drop_zero, run_all]; exact hf)⟩
  · intro i _ hi Q _ _ hQ
    show (st_l2 i (smOf y z)).sat Q
    unfold st_l2
    rw [← h1, decide_eq_true (show (i : Int) < ((smOf y z).p.length : Int) by omega), decide_eq_true (show 0 ≤ (i : Int) ∧ (i : Int) < ((smOf y z).p.length : Int) by omega), eqP_self, succ64 hi hlen]
    exact hQ trivial
  · intro _ Q _ hQ
    show (st_l2 ((smOf y z).p.length : Nat) (smOf y z)).sat Q
    unfold st_l2
    rw [decide_eq_false (show ¬ ((smOf y z).p.length : Int) < ((smOf y z).p.length : Int) by omega)]
    exact hQ
theorem l_l3 : LoopOk Try.prog 10 (lbS 2) (loopSum (L_sH 16 1200) (EeS 1200) fin_l3) := by
  refine loopOk_of (X := X_ls) (ctx_ok mixed puLs fns_nil) 7 10 (fun _ => none) (fun _ _ f h => by simp at h) (L_sH 16 1200) (EeS 1200) (fun _ => Nat.le_refl _) fin_l3 (fun g => st_l3 g.1.1 (smOf g.1.2 g.2)) e_l3 ?_
  rintro ⟨⟨i, y⟩, z⟩ R hw ⟨⟨h1, h2⟩, hf⟩
  have hlen : ((smOf y z).s.length : Int) ≤ maxK .i64 := by
    have : WFKs (.d cI :: ksS) (i, y) := hw.1
    simp only [WFKs, WFK, WFD] at this
    exact this.2.2.1.1
  simp only at h1 h2 hf
  subst h2
  refine ⟨_, rnds_runL (L := L_sH 16 1200) (smOf y z).s (fun i _ => gH i (smOf y z)) (fun _ _ _ => .inl ()) (fun _ => ⟨.exit 4, gE (smOf y z)⟩) (fun _ => True) ?_ ?_ (smOf y z).s.length 0 () (by omega) trivial (by rw [List.drop_zero, run_all]; exact hf)⟩
  · intro i _ hi Q _ _ hQ
    show (st_l3 i (smOf y z)).sat Q
    unfold st_l3
    rw [← h1, decide_eq_true (show (i : Int) < ((smOf y z).s.length : Int) by omega), decide_eq_true (show 0 ≤ (i : Int) ∧ (i : Int) < ((smOf y z).s.length : Int) by omega), show (i : Int).toNat = i by omega, decide_eq_true hi, eqM_self, succ64 hi hlen]
    exact hQ trivial
  · intro _ Q _ hQ
    show (st_l3 ((smOf y z).s.length : Nat) (smOf y z)).sat Q
    unfold st_l3
    rw [decide_eq_false (show ¬ ((smOf y z).s.length : Int) < ((smOf y z).s.length : Int) by omega)]
    exact hQ
noncomputable def X_contactSettles : Ctx := ctxL Try.prog plLs [(10, Try.f10)] [((10, 9), loopSum (L_sH 14 1000) (EeS 1000) fin_l1), ((10, 14), loopSum (L_sH 15 1100) (EeS 1100) fin_l2), ((10, 19), loopSum (L_sH 16 1200) (EeS 1200) fin_l3)]
theorem X_contactSettles_ok : CtxOk X_contactSettles := by
  refine ctxL_ok mixed puLs (fns_cons is_ContactSettles fns_nil) ?_
  intro p hp d hd g hg
  simp only [List.mem_singleton] at hp
  subst hp
  have hl : loopsOf (bodyOf Try.f10) = [lbS 0, lbS 1, lbS 2] := by kernel_rfl
  simp only at hd hg
  rw [hl] at hd
  simp only [List.mem_cons, List.not_mem_nil, or_false] at hd
  rcases hd with rfl | rfl | rfl
  · have hk : keyOf (lbS 0) = 9 := by kernel_rfl
    rw [hk] at hg
    simp [assoc2] at hg
    subst hg
    exact l_l1
  · have hk : keyOf (lbS 1) = 14 := by kernel_rfl
    rw [hk] at hg
    simp only [assoc2] at hg
    rw [show (Nat.beq 10 10 && Nat.beq 9 14) = false from rfl, show (Nat.beq 10 10 && Nat.beq 14 14) = true from rfl] at hg
    simp only [cond_false, cond_true, Option.some.injEq] at hg
    subst hg
    exact l_l2
  · have hk : keyOf (lbS 2) = 19 := by kernel_rfl
    rw [hk] at hg
    simp only [assoc2] at hg
    rw [show (Nat.beq 10 10 && Nat.beq 9 19) = false from rfl, show (Nat.beq 10 10 && Nat.beq 14 19) = false from rfl, show (Nat.beq 10 10 && Nat.beq 19 19) = true from rfl] at hg
    simp only [cond_false, cond_true, Option.some.injEq] at hg
    subst hg
    exact l_l3
def T_settles (l : List (TCT cBall)) (s : List (TCT cMot)) (u : RSet) (t : RTot) : Tree Unit :=
  bif decide ((l.length : Int) > 20) then .leaf () else bif decide ((s.length : Int) > 20) then .leaf () else
  bif appOk ([] : List (TCT cMot)) s 48 then
  bif u.2.2.1 != u.2.2.1 then .fail else bif (u.1.length : Int) != (u.1.length : Int) then .fail else bif (u.2.1.length : Int) != (u.2.1.length : Int) then .fail else
  .need (u.1 = u.1 ∧ (0 : Int) = 0) (.need (u.2.1 = u.2.1 ∧ (0 : Int) = 0) (.need (s = s ∧ (0 : Int) = 0) (
    bif eqP t.1 t.1 then bif t.2.1 == t.2.1 then .leaf () else .fail else .fail))) else .fail
theorem T_settles_ok (l : List (TCT cBall)) (s : List (TCT cMot)) (u : RSet) (t : RTot) : (T_settles l s u t).sat (fun _ => True) := by
  unfold T_settles
  cases decide ((l.length : Int) > 20) with
  | true => trivial
  | false =>
    cases h : decide ((s.length : Int) > 20) with
    | true => trivial
    | false =>
      have hs := of_decide_eq_false h
      have ha : appOk ([] : List (TCT cMot)) s 48 = true := by
        rw [appOk_eq]; refine decide_eq_true ?_; simp only [List.length_nil]; omega
      rw [ha, bne_self_eq_false, bne_self_eq_false, bne_self_eq_false, eqP_self, beq_self_eq_true]
      exact ⟨⟨rfl, rfl⟩, ⟨rfl, rfl⟩, ⟨rfl, rfl⟩, trivial⟩
abbrev cs_contactSettles : List TC := [.sl cBall, .sl cMot, cBnc]
def TY_settles (y : TCTs cs_contactSettles) : Tree Unit := T_settles y.1 y.2.1 (SettleR y.1 y.2.1 y.2.2.1.1 y.2.2.1.2.1) (TotalR y.1 y.2.1)
theorem TY_settles_ok (y : TCTs cs_contactSettles) (_ : WFDs cs_contactSettles y) : (TY_settles y).sat (fun _ => True) := T_settles_ok _ _ _ _
theorem TY_settles_eq (y : TCTs cs_contactSettles) : evFn X_contactSettles 8 (.fn 10) (encAs cs_contactSettles y) noHeap 0 lawK = TY_settles y := by kernel_rfl
theorem contactSettles_sat : LawSat X_contactSettles 10 cs_contactSettles 8 := lawSat 8 TY_settles TY_settles_eq TY_settles_ok
end V
end Go.Proofs.Ytmmhbianajpdgaa
