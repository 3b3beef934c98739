/- Ring of turf's reference; Passes of both; the law TurfRings: for all arguments it returns true. -/
import Derived.Test.YthgmpjljlpacgaaQg
namespace Go.Proofs.Ythgmpjljlpacgaa
open Go.RowKit
namespace V
/-! Ring of the reference -/
def L_rr : Lay := { keys := [4, 5], ks := [.d (.sl cPt), .d cI], bs := [], n := 24, nx := 1000, marks := [] }
def R_rr : Lay := { keys := [2, 3], ks := [.d (.sl cPt), .d cI], bs := [], n := 24, nx := 1000, marks := [] }
def E_rr : XE → Lay := fun e => match e with | .ret => R_rr | _ => L_rr
noncomputable def lb_rr : Code := (loopsOf (bodyOf Try.f31)).getD 0 .skip
def plRr : List (Nat × PureT) := [(50, s_Valid)]
theorem puRr : PuOk Try.prog plRr := puOk_cons is_Valid.plain q_Valid puOk_nil
def RRg (l : List (TCT cPt)) (i : Int) : L_rr.T := ((l, i, ()), ())
def RRx : R_rr.T := (([], 4, ()), ())
def st_rr (l : List (TCT cPt)) (i : Int) : Tree (L_rr.T ⊕ Left' E_rr) :=
  bif decide (i < (l.length : Int)) then bif decide (0 ≤ i ∧ i < (l.length : Int)) then
    bif !fp (getA l i.toNat (dflt cPt)) then .leaf (.inr ⟨.ret, RRx⟩) else .leaf (.inl (RRg l (W64 (i + 1)))) else .fail else .leaf (.inr ⟨.exit 0, RRg l i⟩)
def fin_rr (g : L_rr.T) : Tree (Left' E_rr) := .need (g.1.2.1 = 0 ∧ g.1.1.length ≤ 1000) (.br (g.1.1.all fp) (.leaf ⟨.exit 0, RRg g.1.1 (g.1.1.length : Int)⟩) (.leaf ⟨.ret, RRx⟩))
theorem allFrom_all {α : Type} (P : α → Bool) (d : α) (l : List α) : allFrom (fun i => P (getA l i d)) l.length 0 = l.all P := by
  rw [Bool.eq_iff_iff, allFrom_iff, List.all_eq_true]
  constructor
  · intro h x hx
    obtain ⟨i, hi, rfl⟩ := List.getElem_of_mem hx
    have := h i (by omega) (by omega)
    rwa [getA_lt hi] at this
  · intro h j _ hj
    rw [getA_lt (show j < l.length by omega)]
    exact h _ (List.getElem_mem _)
theorem rnds_rr {step : L_rr.T → Tree (L_rr.T ⊕ Left' E_rr)} (hs : ∀ l i, step (RRg l i) = st_rr l i) (R : Left' E_rr → Prop) (l : List (TCT cPt)) (hl : l.length ≤ 1000) (f : Nat) :
    ∀ (i : Nat), i + f = l.length → (allFrom (fun i => fp (getA l i (dflt cPt))) f i = true → R ⟨.exit 0, RRg l (l.length : Int)⟩) → (allFrom (fun i => fp (getA l i (dflt cPt))) f i = false → R ⟨.ret, RRx⟩) → Rnds L_rr E_rr step R (f + 1) (RRg l (i : Int)) := by
  induction f with
  | zero =>
    intro i hi h1 _
    have e : i = l.length := by omega
    subst e
    intro _
    rw [hs]
    unfold st_rr
    rw [decide_eq_false (show ¬ (l.length : Int) < (l.length : Int) by omega)]
    exact fun _ => h1 rfl
  | succ f ih =>
    intro i hi h1 h2
    intro _
    rw [hs]
    unfold st_rr
    rw [decide_eq_true (show (i : Int) < (l.length : Int) by omega), decide_eq_true (show 0 ≤ (i : Int) ∧ (i : Int) < (l.length : Int) by omega), show W64 ((i : Int) + 1) = ((i + 1 : Nat) : Int) from (wrap_id (by omega) (by omega)).trans rfl, show (i : Int).toNat = i by omega]
    rw [allFrom] at h1 h2
    cases hc : fp (getA l i (dflt cPt)) with
    | false => rw [hc] at h2; exact fun _ => h2 rfl
    | true => rw [hc] at h1 h2; exact ih (i + 1) (by omega) h1 h2
theorem l_rr : LoopOk Try.prog 31 lb_rr (loopSum L_rr E_rr fin_rr) := by
  refine loopOk_of (X := ctx Try.prog plRr []) (ctx_ok mixed puRr fns_nil) 7 31 (fun _ => none) (fun _ _ f h => by simp at h) L_rr E_rr (fun e => by cases e <;> exact Nat.le_refl _) fin_rr (fun g => st_rr g.1.1 g.1.2.1) (fun g => by kernel_rfl) ?_
  rintro ⟨⟨l, i, _⟩, _⟩ R _ hf
  obtain ⟨⟨rfl, hl⟩, h1, h2⟩ := hf
  refine ⟨l.length + 1, ?_⟩
  refine rnds_rr (step := fun g => st_rr g.1.1 g.1.2.1) (fun _ _ => rfl) R l hl l.length 0 (by omega) (fun h => h1 ?_) (fun h => h2 ?_)
  · rw [allFrom_all] at h; exact h
  · rw [allFrom_all] at h; exact h
def plRq : List (Nat × PureT) := (38, s_CheckDisc) :: (60, s_ring) :: plRr
theorem puRq : PuOk Try.prog plRq := puOk_cons (show Plain Try.prog 38 from ⟨_, Try.func38, by kernel_rfl, by kernel_rfl⟩) q_rCheckDisc (puOk_cons is_Circle.plain q_Circle puRr)
noncomputable def X_rRing : Ctx := ctxL Try.prog plRq [(31, Try.f31)] [((31, 5), loopSum L_rr E_rr fin_rr)]
theorem X_rRing_ok : CtxOk X_rRing := ctxL_ok mixed puRq (fns_cons is_rRing fns_nil) (loops_one (by kernel_rfl) (by kernel_rfl) l_rr)
def T_rRing (x y r : Int) : Tree RRing := bif u_cd x y r != 0 then .leaf ([], 2, ()) else .need ((0 : Int) = 0 ∧ (ringW x y r).length ≤ 1000) (bif (ringW x y r).all fp then .leaf (ringW x y r, 0, ()) else .leaf ([], 4, ()))
theorem ringW_len (x y r : Int) : (ringW x y r).length = 16 := rfl
theorem T_rRing_ok (x y r : Int) : (T_rRing x y r).sat (fun z => z = RingR x y r) := by
  unfold T_rRing RingR
  cases u_cd x y r != 0 with
  | true => exact rfl
  | false =>
    refine ⟨⟨rfl, by rw [ringW_len]; omega⟩, ?_⟩
    cases (ringW x y r).all fp <;> exact rfl
theorem q_rRing : PureOk Try.prog 31 s_Ring := q_by X_rRing_ok 5 (fun x => T_rRing x.1.1.1 x.1.1.2.1 x.1.2.1) (fun x => by kernel_rfl) fun _ _ _ => T_rRing_ok _ _ _
/-! Passes -/
theorem is_Passes : FnIs Try.prog (32, Try.f32) := ⟨Try.func32, by kernel_rfl, by kernel_rfl⟩
theorem is_rPasses : FnIs Try.prog (33, Try.f33) := ⟨Try.func33, by kernel_rfl, by kernel_rfl⟩
abbrev RPass := TCTs [.b, cI]
abbrev P3 := TCTs [cPt, cPt, cDisc]
def pcOf (x : P3) : PC := ⟨x.1.1, x.1.2.1, x.2.1.1, x.2.1.2.1, false⟩
def rgOf (x : P3) : RRing := RingR x.2.2.1.1.1 x.2.2.1.1.2.1 x.2.2.1.2.1
def PassR (x : P3) : RPass := bif fp x.1 && fp x.2.1 then bif (rgOf x).2.1 != 0 then (false, (rgOf x).2.1, ()) else (passF (pcOf x) (rgOf x).1, 0, ()) else (false, 2, ())
def okPs (x : P3) : Bool := decide ((rgOf x).1.length ≤ 1000) && ((rgOf x).1.all fp && (fp x.1 && fp x.2.1))
def T_Ps (x : P3) : Tree RPass := bif (rgOf x).2.1 != 0 then .leaf (false, (rgOf x).2.1, ()) else bif okPs x then .leaf (passF (pcOf x) (rgOf x).1, 0, ()) else .fail
theorem rg_ok (x : P3) : (rgOf x).1.length ≤ 1000 ∧ (rgOf x).1.all fp = true := by
  unfold rgOf RingR
  generalize x.2.2.1.1.1 = a
  generalize x.2.2.1.1.2.1 = b
  generalize x.2.2.1.2.1 = r
  cases u_cd a b r != 0 with
  | true => exact ⟨Nat.zero_le _, rfl⟩
  | false =>
    cases h : (ringW a b r).all fp with
    | true => exact ⟨by show (ringW a b r).length ≤ 1000; rw [ringW_len]; omega, h⟩
    | false => exact ⟨Nat.zero_le _, rfl⟩
theorem T_Ps_ok {x : P3} (ha : fp x.1 = true) (hb : fp x.2.1 = true) : (T_Ps x).sat (fun y => y = PassR x) := by
  unfold T_Ps PassR
  rw [ha, hb]
  have h := rg_ok x
  rw [show okPs x = true by unfold okPs; rw [ha, hb, h.2, decide_eq_true h.1]; rfl]
  cases (rgOf x).2.1 != 0 <;> exact rfl
abbrev s_Passes : PureT := spec [cPt, cPt, cDisc] [.b, cI] (fun _ => true) (fun x => ((PassR x).1, (PassR x).2.1, ()))
def plPq : List (Nat × PureT) := [(47, s_fits), (30, s_Ring), (61, s_passes)]
theorem puPq : PuOk Try.prog plPq := puOk_cons is_fitsL.plain q_fits (puOk_cons is_Ring.plain q_Ring (puOk_cons is_passes.plain q_passes puOk_nil))
def T_Passes (x : P3) : Tree RPass := bif !([x.1, x.2.1].all fp) then .leaf (false, 2, ()) else T_Ps x
theorem q_Passes : PureOk Try.prog 32 s_Passes := q_by (ctx_ok mixed puPq (fns_cons is_Passes fns_nil)) 5 T_Passes (fun x => by kernel_rfl) fun x _ _ => by
  show (T_Passes x).sat (fun y => y = PassR x)
  unfold T_Passes
  rw [List.all_cons, List.all_cons, List.all_nil, Bool.and_true]
  cases ha : fp x.1 with
  | false => unfold PassR; rw [ha]; exact rfl
  | true => cases hb : fp x.2.1 with
    | false => unfold PassR; rw [ha, hb]; exact rfl
    | true => exact T_Ps_ok ha hb
def plPr : List (Nat × PureT) := [(50, s_Valid), (31, s_Ring), (62, s_passes)]
theorem puPr : PuOk Try.prog plPr := puOk_cons is_Valid.plain q_Valid (puOk_cons is_rRing.plain q_rRing (puOk_cons is_Cross.plain q_Cross puOk_nil))
def T_rPasses (x : P3) : Tree RPass := bif !fp x.1 then .leaf (false, 2, ()) else bif !fp x.2.1 then .leaf (false, 2, ()) else T_Ps x
theorem q_rPasses : PureOk Try.prog 33 s_Passes := q_by (ctx_ok mixed puPr (fns_cons is_rPasses fns_nil)) 5 T_rPasses (fun x => by kernel_rfl) fun x _ _ => by
  show (T_rPasses x).sat (fun y => y = PassR x)
  unfold T_rPasses
  cases ha : fp x.1 with
  | false => unfold PassR; rw [ha]; exact rfl
  | true => cases hb : fp x.2.1 with
    | false => unfold PassR; rw [ha, hb]; exact rfl
    | true => exact T_Ps_ok ha hb
/-! the law -/
theorem is_TurfRings : FnIs Try.prog (10, Try.f10) := ⟨Try.func10, by kernel_rfl, by kernel_rfl⟩
abbrev s_fine : PureT := spec [] [.b] (fun _ => true) (fun _ => (true, ()))
theorem q_fine : PureOk Try.prog 14 s_fine := bridge p_fine _ _ rfl (fun _ => rfl)
def bs_rg : List BK := [(0, 35, [.d cI, .d cI]), (1, 35, [.d cI, .d cI]), (2, 57, [.d cI, .d cI, .d cI])]
def L_rg : Lay := { keys := [3, 4, 5, 7, 9, 11], ks := [.p 0 0 0 0, .p 1 0 0 0, .p 2 0 0 0, .d (.sl cPt), .d (.sl cPt), .d cI], bs := bs_rg, n := 74, nx := 1000, marks := [] }
def R_rg : Lay := { keys := [6], ks := [.d .b], bs := [], n := 74, nx := 1000, marks := [] }
def E_rg : XE → Lay := fun e => match e with | .ret => R_rg | _ => L_rg
noncomputable def lb_rg : Code := (loopsOf (bodyOf Try.f10)).getD 0 .skip
def Gg (a b : TCT cPt) (d : TCT cDisc) (l m : List (TCT cPt)) (i : Int) : L_rg.T := (((), (), (), l, m, i, ()), (a.1, a.2.1, ()), (b.1, b.2.1, ()), (d.1.1, d.1.2.1, d.2.1, ()), ())
def Gr : R_rg.T := ((false, ()), ())
def st_rg (a b : TCT cPt) (d : TCT cDisc) (l m : List (TCT cPt)) (i : Int) : Tree (L_rg.T ⊕ Left' E_rg) :=
  bif decide (i < (l.length : Int)) then bif decide (0 ≤ i ∧ i < (l.length : Int)) then bif decide (0 ≤ i ∧ i < (m.length : Int)) then
    bif !sameB (ptAt l i) (ptAt m i) then .leaf (.inr ⟨.ret, Gr⟩) else .leaf (.inl (Gg a b d l m (W64 (i + 1)))) else .fail else .fail else .leaf (.inr ⟨.exit 0, Gg a b d l m i⟩)
def same0 (l m : List (TCT cPt)) (i : Int) : Prop := l = m ∧ i = 0 ∧ l.length ≤ 1000
theorem sameB_self (p : TCT cPt) : sameB p p = true := by unfold sameB; rw [beq_self_eq_true, beq_self_eq_true]; rfl
def gA (g : L_rg.T) : TCT cPt := (g.2.1.1, g.2.1.2.1, ())
def gB (g : L_rg.T) : TCT cPt := (g.2.2.1.1, g.2.2.1.2.1, ())
def gD (g : L_rg.T) : TCT cDisc := ((g.2.2.2.1.1, g.2.2.2.1.2.1, ()), g.2.2.2.1.2.2.1, ())
def fin_rg (g : L_rg.T) : Tree (Left' E_rg) := .need (same0 g.1.2.2.2.1 g.1.2.2.2.2.1 g.1.2.2.2.2.2.1) (.leaf ⟨.exit 0, Gg (gA g) (gB g) (gD g) g.1.2.2.2.1 g.1.2.2.2.1 (g.1.2.2.2.1.length : Int)⟩)
theorem rnds_rg {step : L_rg.T → Tree (L_rg.T ⊕ Left' E_rg)} (hs : ∀ a b d l m i, step (Gg a b d l m i) = st_rg a b d l m i) (R : Left' E_rg → Prop) (a b : TCT cPt) (d : TCT cDisc) (l : List (TCT cPt)) (hl : l.length ≤ 1000) (f : Nat) :
    ∀ (i : Nat), i + f = l.length → R ⟨.exit 0, Gg a b d l l (l.length : Int)⟩ → Rnds L_rg E_rg step R (f + 1) (Gg a b d l l (i : Int)) := by
  induction f with
  | zero =>
    intro i hi h1
    have e : i = l.length := by omega
    subst e
    intro _
    rw [hs]
    unfold st_rg
    rw [decide_eq_false (show ¬ (l.length : Int) < (l.length : Int) by omega)]
    exact fun _ => h1
  | succ f ih =>
    intro i hi h1
    intro _
    rw [hs]
    unfold st_rg
    rw [decide_eq_true (show (i : Int) < (l.length : Int) by omega), decide_eq_true (show 0 ≤ (i : Int) ∧ (i : Int) < (l.length : Int) by omega), show W64 ((i : Int) + 1) = ((i + 1 : Nat) : Int) from (wrap_id (by omega) (by omega)).trans rfl, sameB_self]
    exact ih (i + 1) (by omega) h1
theorem l_rg : LoopOk Try.prog 10 lb_rg (loopSum L_rg E_rg fin_rg) := by
  refine loopOk_of (X := ctx Try.prog [] []) (ctx_ok mixed puOk_nil fns_nil) 7 10 (fun _ => none) (fun _ _ f h => by simp at h) L_rg E_rg (fun e => by cases e <;> exact Nat.le_refl _) fin_rg (fun g => st_rg (gA g) (gB g) (gD g) g.1.2.2.2.1 g.1.2.2.2.2.1 g.1.2.2.2.2.2.1) (fun g => by kernel_rfl) ?_
  rintro ⟨⟨_, _, _, l, m, i, _⟩, ⟨ax, ay, _⟩, ⟨bx, bY, _⟩, ⟨dx, dy, r, _⟩, _⟩ R _ hf
  obtain ⟨⟨e1, e2, hl⟩, h1⟩ := hf
  simp only at e1 e2 hl h1
  subst e1
  subst e2
  exact ⟨l.length + 1, rnds_rg (step := fun g => st_rg (gA g) (gB g) (gD g) g.1.2.2.2.1 g.1.2.2.2.2.1 g.1.2.2.2.2.2.1) (fun _ _ _ _ _ _ => rfl) R (ax, ay, ()) (bx, bY, ()) ((dx, dy, ()), r, ()) l hl l.length 0 (by omega) h1⟩
def plRg : List (Nat × PureT) := [(30, s_Ring), (31, s_Ring), (32, s_Passes), (33, s_Passes), (14, s_fine)]
theorem puRg : PuOk Try.prog plRg := puOk_cons is_Ring.plain q_Ring (puOk_cons is_rRing.plain q_rRing (puOk_cons is_Passes.plain q_Passes (puOk_cons is_rPasses.plain q_rPasses (puOk_cons is_fine.plain q_fine puOk_nil))))
noncomputable def X_turfRings : Ctx := ctxL Try.prog plRg [(10, Try.f10)] [((10, 6), loopSum L_rg E_rg fin_rg)]
theorem X_turfRings_ok : CtxOk X_turfRings := ctxL_ok mixed puRg (fns_cons is_TurfRings fns_nil) (loops_one (by kernel_rfl) (by kernel_rfl) l_rg)
abbrev cs_turfRings : List TC := [cPt, cPt, cDisc]
def T_rings (u v : RRing) (p q : RPass) : Tree Unit :=
  bif u.2.1 != v.2.1 then .fail else bif (u.1.length : Int) != (v.1.length : Int) then .fail else
    .need (same0 u.1 v.1 0) (bif p.1 == q.1 then bif p.2.1 == q.2.1 then .leaf () else .fail else .fail)
theorem T_rings_ok (u : RRing) (p : RPass) (h : u.1.length ≤ 1000) : (T_rings u u p p).sat (fun _ => True) := by
  unfold T_rings
  rw [bne_self_eq_false, bne_self_eq_false, beq_self_eq_true, beq_self_eq_true]
  exact ⟨⟨rfl, rfl, h⟩, trivial⟩
def TY_rings (y : TCTs cs_turfRings) : Tree Unit := T_rings (rgOf y) (rgOf y) (PassR y) (PassR y)
theorem TY_rings_ok (y : TCTs cs_turfRings) (_ : WFDs cs_turfRings y) : (TY_rings y).sat (fun _ => True) := T_rings_ok _ _ (rg_ok y).1
theorem TY_rings_eq (y : TCTs cs_turfRings) : evFn X_turfRings 8 (.fn 10) (encAs cs_turfRings y) noHeap 0 lawK = TY_rings y := by kernel_rfl
theorem turfRings_sat : LawSat X_turfRings 10 cs_turfRings 8 := lawSat 8 TY_rings TY_rings_eq TY_rings_ok
end V
end Go.Proofs.Ythgmpjljlpacgaa
