/- The reference: values and the best act: the walks. -/
import Derived.Test.YtdblbofagfhlbaaJs
namespace Go.Proofs.Ytdblbofagfhlbaa
open Go.RowKit
namespace V
namespace K9
noncomputable def X_rva (V : VR) : Ctx := ctxS Try.prog plRv [(63, Try.f63)] [((63, 7), loopSum L_lv E_lv' (finX [.exit 0] (stg_lv V) fu_lv))] [(67, sp_rw V)]
/-! best -/
noncomputable def lb_rb : Code := (loopsOf (bodyOf Try.f69)).getD 0 .skip
abbrev kA : List SK := [.d cI, .d cI, .d cI, .d cI]
def L_lb : Lay := { keys := [0, 4, 5, 6, 7, 8, 9, 10, 11], ks := [.p 0 0 0 0, .p 1001 0 0 0, .p 1002 0 0 0, .p 1003 0 0 0, .p 1004 0 0 0, .d cAs, .d cI, .p 1005 0 0 0, .d cI], bs := [(0, 137, [.o 24 cC]), (1001, 33, kBd), (1002, 36, kSc), (1003, 55, kA), (1004, 24, kC), (1005, 24, kC)], n := 50, nx := 2000, marks := [] }
def E_lb' : XE → Lay := fun _ => { keys := [6, 7, 8, 9, 10], ks := [.p 1003 0 0 0, .p 1004 0 0 0, .d cAs, .d cI, .p 1005 0 0 0], bs := [(0, 137, [.o 24 cC]), (1003, 55, kA), (1004, 24, kC), (1005, 24, kC)], n := 50, nx := 2000, marks := [] }
def hd_lb (b : TCT cB) (x : TCT cSc) (l : List (TCT cA)) (at' i : Int) (ra : TCT cA) (rc mo : TCT cC) (k : Kn) : L_lb.T := (((), (), (), (), (), l, at', (), i, ()), ((k, ()), cellsBd b, x, ra, (rc.1, rc.2.1, ()), (mo.1, mo.2.1, ()), ()))
def ex_lb (l : List (TCT cA)) (at' : Int) (ra : TCT cA) (rc mo : TCT cC) (k : Kn) : Left' E_lb' := ⟨.exit 0, (((), (), l, at', (), ()), ((k, ()), ra, (rc.1, rc.2.1, ()), (mo.1, mo.2.1, ()), ()))⟩
def st_lb (V : VR) (b : TCT cB) (x : TCT cSc) (l : List (TCT cA)) (at' i : Int) (ra : TCT cA) (rc mo : TCT cC) (k : Kn) : Tree (L_lb.T ⊕ Left' E_lb') := forS (l.length : Int) i
  (idx (l.length : Int) i (bif (wR V b x (getA l i.toNat (dflt cA)) k).isSome then
    bif decide (at' < 0) then .leaf (.inl (hd_lb b x l i (W64 (i + 1)) ra rc (gvK (wR V b x (getA l i.toNat (dflt cA)) k)) (gkK (wR V b x (getA l i.toNat (dflt cA)) k))))
    else bif decide ((gvK (wR V b x (getA l i.toNat (dflt cA)) k)).1 > mo.1) then .leaf (.inl (hd_lb b x l i (W64 (i + 1)) ra rc (gvK (wR V b x (getA l i.toNat (dflt cA)) k)) (gkK (wR V b x (getA l i.toNat (dflt cA)) k))))
    else .leaf (.inl (hd_lb b x l at' (W64 (i + 1)) ra rc mo (gkK (wR V b x (getA l i.toNat (dflt cA)) k)))) else .fail)) (.leaf (.inr (ex_lb l at' ra rc mo k)))
def stg_lb (V : VR) (g : L_lb.T) : Tree (L_lb.T ⊕ Left' E_lb') := st_lb V (brdB g.2.2.1) g.2.2.2.1 g.1.2.2.2.2.2.1 g.1.2.2.2.2.2.2.1 g.1.2.2.2.2.2.2.2.2.1 g.2.2.2.2.1 g.2.2.2.2.2.1 g.2.2.2.2.2.2.1 g.2.1.1
def fu_lb (g : L_lb.T) : Nat := g.1.2.2.2.2.2.1.length + 1
theorem l_lb {V : VR} (h : SpecOk Try.prog 67 (sp_rw V)) : LoopOk Try.prog 69 lb_rb (loopSum L_lb E_lb' (finX [.exit 0] (stg_lb V) fu_lb)) :=
  loopOk_x0 (X_lv_ok h) 7 _ L_lb E_lb' (fun e => by cases e <;> exact Nat.le_refl _) _ (stg_lb V) fu_lb (fun g => by kernel_rfl)
noncomputable def X_rb2 (V : VR) : Ctx := ctxS Try.prog plRv [(69, Try.f69)] [((69, 5), loopSum L_lb E_lb' (finX [.exit 0] (stg_lb V) fu_lb))] [(67, sp_rw V)]
def R_rbe : FLay := { ks := [.d cA, .d cC], bs := bsKn 0, nx := 3000 }
def E_rbe (b : Bool) : FLay := bif b then R_rbe else N_rv
def atK {α : Type} (n : Int) (k : Kn) (t : Tree α) : Tree α := bif decide (0 ≤ n ∧ n < (k.length : Int)) then bif decide (n.toNat < k.length) then t else .fail else .fail
theorem atK_in {α : Type} {n : Int} {k : Kn} {t : Tree α} (h : 0 ≤ n ∧ n < (k.length : Int)) : atK n k t = t := by
  unfold atK
  rw [decide_eq_true h, decide_eq_true (show n.toNat < k.length by omega)]; rfl
def lfV (v : TCT cC) (k : Kn) : Tree (LeftF E_rv) := .leaf ⟨true, (((v.1, v.2.1, ()), ()), ((k, ()), ()))⟩
def y_lv (V : VR) (b : TCT cB) (x : TCT cSc) (k : Kn) : Option (Left' E_lv') := iter (stg_lv V) ((actsF b (placeF x)).length + 1) (hd_lv b x (numN b x) (actsF b (placeF x)) 0 zC zC k)
def T_rva2 (n : Int) (o : TCT cC) (k : Kn) : Tree (LeftF E_rv) := atK n k (lfV o (setA k n.toNat o))
def T_rva (V : VR) (b : TCT cB) (x : TCT cSc) (k : Kn) : Tree (LeftF E_rv) := bif bOk b && placeOk b x then atK (numN b x) k (bif decide ((getA k (numN b x).toNat (dflt cC)).1 ≥ 0) then
    atK (numN b x) k (lfV (getA k (numN b x).toNat (dflt cC)) k)
  else bif bOk b && placeOk b x then bif isE (.exit 0) (y_lv V b x k) then T_rva2 (valE (.exit 0) (y_lv V b x k)).1.2.2.1 (valE (.exit 0) (y_lv V b x k)).2.2.2.1 (valE (.exit 0) (y_lv V b x k)).2.1.1 else .fail else .fail) else .fail
theorem e_rva (V : VR) (g : L_rv.T) : evBody (X_rva V) (evFn (X_rva V) 6) 63 (ofKs L_rv.ks g.1 L_rv.nx) (L_rv.lay.hp g) (L_rv.lay.of g).nx (foutK E_rv) = T_rva V g.1.2.1 g.1.2.2.1 g.2.1.1 := by kernel_rfl
/-- the value of a scene, by that of the scenes after it -/
def stR (V : VR) (b : TCT cB) (x : TCT cSc) (s : TCT cC × Kn) (a : TCT cA) : Option (TCT cC × Kn) := (wR V b x a s.2).map fun w => (mxC s.1 w.1, w.2)
def putR (n : Int) (s : TCT cC × Kn) : RKp := bif decide (0 ≤ n ∧ n < (s.2.length : Int)) then some (s.1, setA s.2 n.toNat s.1) else none
def valRS (V : VR) : VR := fun b x k => bif (bOk b && placeOk b x) && decide (0 ≤ numN b x ∧ numN b x < (k.length : Int)) then
  bif decide ((getA k (numN b x).toNat (dflt cC)).1 ≥ 0) then some (getA k (numN b x).toNat (dflt cC), k) else (foldO (stR V b x) (zC, k) (actsF b (placeF x))).bind (putR (numN b x)) else none
def valRN : Nat → VR
  | 0 => fun _ _ _ => none
  | n + 1 => valRS (valRN n)
theorem runO_fold {S α E : Type} (g : S → α → Option S) (ex : S → E) : ∀ (l : List α) (i : Nat) (s s' : S), foldO g s l = some s' → runO (fun _ a s => (g s a).map Sum.inl) (fun s => some (ex s)) i l s = some (ex s')
  | [], i, s, s', h => by cases h; rfl
  | a :: l, i, s, s', h => by
    simp only [foldO] at h
    simp only [runO]
    cases hg : g s a with
    | none => rw [hg] at h; cases h
    | some s1 => rw [hg, Option.bind_some] at h; exact runO_fold g ex l (i + 1) s1 s' h
theorem it_lv {V : VR} {b : TCT cB} {x : TCT cSc} {n : Int} {l : List (TCT cA)} {r : TCT cC} (hn : (l.length : Int) ≤ maxK .i64) {s s' : TCT cC × Kn} (h : foldO (stR V b x) s l = some s') : iter (stg_lv V) (l.length + 1) (hd_lv b x n l 0 r s.1 s.2) = some (ex_lv n r s'.1 s'.2) := by
  refine iter_list l (fun i (s : TCT cC × Kn) => hd_lv b x n l (i : Int) r s.1 s.2) (fun _ a s => (stR V b x s a).map Sum.inl) (fun s => some (ex_lv n r s.1 s.2)) (fun _ _ => True) ?_ ?_ l.length 0 s _ _ (by omega) (by omega) trivial (by rw [List.drop_zero]; exact runO_fold (stR V b x) (fun s => ex_lv n r s.1 s.2) l 0 s s' h)
  · intro i s hi _
    have hst : (stg_lv V (hd_lv b x n l (i : Int) r s.1 s.2)) = bif (wR V b x l[i] s.2).isSome then .leaf (.inl (hd_lv b x n l ((i + 1 : Nat) : Int) r (mxC s.1 (gvK (wR V b x l[i] s.2))) (gkK (wR V b x l[i] s.2)))) else .fail := by
      show st_lv V b x n l (i : Int) r s.1 s.2 = _
      unfold st_lv idx
      rw [forS_in (by omega) (by omega), decide_eq_true (show 0 ≤ (i : Int) ∧ (i : Int) < (l.length : Int) by omega), W64_succ hi hn]
      have ht : (i : Int).toNat = i := by omega
      rw [ht, getA_lt hi]
      rfl
    rw [hst]
    unfold stR
    cases wR V b x l[i] s.2 with
    | none => trivial
    | some w => exact ⟨rfl, trivial⟩
  · intro s e _ he
    cases he
    show (st_lv V b x n l (l.length : Int) r s.1 s.2).run = _
    unfold st_lv
    rw [forS_out (by omega)]
    rfl
theorem T_rva_sat {V : VR} {b : TCT cB} {x : TCT cSc} {k : Kn} {R : LeftF E_rv → Prop} (h : (brT (valRS V b x k)).sat R) : (T_rva V b x k).sat R := by
  obtain ⟨h1, h2⟩ := h
  cases hs : (valRS V b x k).isSome with
  | false => exact (h2 hs).elim
  | true =>
    have h1 := h1 hs
    clear h2
    unfold valRS at h1 hs
    unfold T_rva
    cases ho : (bOk b && placeOk b x) with
    | false => rw [ho] at hs; cases hs
    | true =>
      rw [ho] at h1 hs
      cases hd : decide (0 ≤ numN b x ∧ numN b x < (k.length : Int)) with
      | false => rw [hd] at hs; cases hs
      | true =>
        rw [hd] at h1 hs
        have hr := of_decide_eq_true hd
        simp only [Bool.true_and, cond_true] at h1 hs ⊢
        rw [atK_in hr]
        cases hg : decide ((getA k (numN b x).toNat (dflt cC)).1 ≥ 0) with
        | true =>
          rw [hg] at h1
          rw [cond_true, atK_in hr]
          exact h1
        | false =>
          rw [hg] at h1 hs
          simp only [cond_false] at h1 hs ⊢
          cases hf : foldO (stR V b x) (zC, k) (actsF b (placeF x)) with
          | none => rw [hf] at hs; cases hs
          | some s =>
            rw [hf, Option.bind_some] at h1 hs
            rw [Bool.and_eq_true] at ho
            have hl := acts_short ho.1 ho.2
            have e : y_lv V b x k = some (ex_lv (numN b x) zC s.1 s.2) := it_lv (s := (zC, k)) (by simp only [maxK]; omega) hf
            rw [e]
            show (T_rva2 (numN b x) s.1 s.2).sat R
            unfold T_rva2
            unfold putR at h1 hs
            cases hd2 : decide (0 ≤ numN b x ∧ numN b x < (s.2.length : Int)) with
            | false => rw [hd2] at hs; cases hs
            | true =>
              rw [hd2] at h1
              rw [atK_in (of_decide_eq_true hd2)]
              exact h1
theorem X_rva_ok {V : VR} (h : SpecOk Try.prog 67 (sp_rw V)) : CtxOk (X_rva V) := ctxS_ok mixed puRv (fns_cons is_rvalue fns_nil) (loops_one (lb := lb_rv) (by kernel_rfl) (by kernel_rfl) (l_lv h)) (one_spec is_rworth.plain h)
theorem sp_rv_step {V : VR} (h : SpecOk Try.prog 67 (sp_rw V)) : SpecOk Try.prog 63 (sp_rv (valRS V)) :=
  fspec_ok (X := X_rva V) (X_rva_ok h) 6 E_rv_nx fun g R _ hf => by
    rw [e_rva]
    exact sat_loose (T_rva_sat hf) fun x hx _ => hx
theorem sp_rvN : ∀ n, SpecOk Try.prog 63 (sp_rv (valRN n))
  | 0 => fspec_ok (X := ctx Try.prog [] []) (ctx_ok mixed puOk_nil fns_nil) 0 E_rv_nx fun g R _ hf => (hf.2 rfl).elim
  | n + 1 => sp_rv_step (sp_rw_ok (sp_rvN n))
theorem sp_rwN (n : Nat) : SpecOk Try.prog 67 (sp_rw (valRN n)) := sp_rw_ok (sp_rvN n)
/-! the best act -/
abbrev RBp : Type := Option (TCT cA × TCT cC × Kn)
abbrev Sb : Type := Int × TCT cC × Kn
def stB9 (V : VR) (b : TCT cB) (x : TCT cSc) (i : Nat) (a : TCT cA) (s : Sb) : Option (Sb ⊕ Left' E_lb') := (wR V b x a s.2.2).map fun w => .inl (bif decide (s.1 < 0) then ((i : Int), w.1, w.2) else bif decide ((gvK (some w)).1 > s.2.1.1) then ((i : Int), w.1, w.2) else (s.1, s.2.1, w.2))
def exB9 (l : List (TCT cA)) (s : Sb) : Option (Left' E_lb') := some (ex_lb l s.1 zA zC s.2.1 s.2.2)
def y_lb (V : VR) (b : TCT cB) (x : TCT cSc) (k : Kn) : Option (Left' E_lb') := iter (stg_lb V) ((actsF b (placeF x)).length + 1) (hd_lb b x (actsF b (placeF x)) (-1) 0 zA zC zC k)
def lfB (a : TCT cA) (v : TCT cC) (k : Kn) : Tree (LeftF E_rbe) := .leaf ⟨true, ((a, (v.1, v.2.1, ()), ()), ((k, ()), ()))⟩
def T_rb2 (l : List (TCT cA)) (at' : Int) (mo : TCT cC) (k : Kn) : Tree (LeftF E_rbe) := bif decide (at' < 0) then lfB zA zC k else bif decide (0 ≤ at' ∧ at' < (l.length : Int)) then lfB (getA l at'.toNat (dflt cA)) mo k else .fail
def T_rb9 (V : VR) (b : TCT cB) (x : TCT cSc) (k : Kn) : Tree (LeftF E_rbe) := bif bOk b && placeOk b x then bif isE (.exit 0) (y_lb V b x k) then
  T_rb2 (valE (.exit 0) (y_lb V b x k)).1.2.2.1 (valE (.exit 0) (y_lb V b x k)).1.2.2.2.1 (valE (.exit 0) (y_lb V b x k)).2.2.2.2.1 (valE (.exit 0) (y_lb V b x k)).2.1.1 else .fail else .fail
theorem e_rb9 (V : VR) (g : L_rv.T) : evBody (X_rb2 V) (evFn (X_rb2 V) 6) 69 (ofKs L_rv.ks g.1 L_rv.nx) (L_rv.lay.hp g) (L_rv.lay.of g).nx (foutK E_rbe) = T_rb9 V g.1.2.1 g.1.2.2.1 g.2.1.1 := by kernel_rfl
end K9
end V
end Go.Proofs.Ytdblbofagfhlbaa
