/- Worth: its contract. -/
import Derived.Test.YtialgmhhkbdegaaGreatJg
namespace Go.Proofs.YtialgmhhkbdegaaGreat
open Go.RowKit
namespace V
theorem eqAct_iff {x a : TCT cA} : eqAct x a = true ↔ x = a := by
  rcases x with ⟨x1, x2, x3, x4, ⟨⟩⟩
  rcases a with ⟨a1, a2, a3, a4, ⟨⟩⟩
  unfold eqAct
  simp only [Bool.and_true, Bool.and_eq_true, beq_iff_eq, Prod.mk.injEq, and_true]
def legalB (b : TCT cB) (p : TCT cP) (a : TCT cA) : Bool := (actsF b p).any fun x => eqAct x a
theorem legalB_of {b : TCT cB} (hb : OkB b) {p : TCT cP} (hp : OkP b p) {a : TCT cA} (h : legalB b p a = true) : Legal b p a := by
  unfold legalB at h
  rw [List.any_eq_true] at h
  obtain ⟨x, hx, he⟩ := h
  rw [← eqAct_iff.1 he]
  exact legal_of hb hp hx
theorem all_wt_eq (c : Cwt) : ∀ l, all_wt c l () = bif l.any (fun x => eqAct x c.a) then some (.inr ()) else some (.inl ())
  | [] => rfl
  | x :: l => by
    have ih := all_wt_eq c l
    unfold all_wt at ih ⊢
    simp only [foldX, List.any_cons, g_wt]
    cases eqAct x c.a with
    | true => rfl
    | false => exact ih
theorem all_af_eq (c : Caf) : ∀ l, all_af c l () = bif l.any (fun x => eqAct x c.a) then some (.inr ()) else some (.inl ())
  | [] => rfl
  | x :: l => by
    have ih := all_af_eq c l
    unfold all_af at ih ⊢
    simp only [foldX, List.any_cons, g_af]
    cases eqAct x c.a with
    | true => rfl
    | false => exact ih
noncomputable def loops_Wo : List ((Nat × Nat) × (St → Tree (XE × St))) := [((45, 2), loopSum2 L_wto E_wto fin_wto)]
def c_Wo (b : TCT cB) (x : TCT cSc) (a : TCT cA) : Cwt := ⟨a, (0, 0, ()), (0, ()), no0, cellsB b, cellsP (placeF x), a, cellsP (placeF x)⟩
def al_Wo (b : TCT cB) (x : TCT cSc) (a : TCT cA) : Option (Unit ⊕ Unit) := all_wt (c_Wo b x a) (rowsA b (cellsP (placeF x)) (placeF x).2.2.1) ()
abbrev TWo := Tree (TCTs [cC, cI])
def bad_Wo (e : Int) : TWo := .leaf ((0, 0, ()), e, ())
def ok_Wo (r : ROp) : TWo := bif r.isSome then .leaf (((gv r).1, (gv r).2.1, ()), 0, ()) else .fail
def T_Wo (b : TCT cB) (x : TCT cSc) (a : TCT cA) : TWo := bif boardF b != 0 then bad_Wo (boardF b) else
  bif placeOk b x then bif x.2.1 == (b.2.2.1.length : Int) then bad_Wo 10 else
    bif eqAct runA a then ok_Wo (wM VX b (placeF x) a no0) else
    .need (selfL [lk_wt]) (bif okN b (x.2.2.1.length : Int) 0 && okX (al_Wo b x a) then bad_Wo 10 else
      bif okN b (x.2.2.1.length : Int) 0 && isR (al_Wo b x a) then ok_Wo (wM VX b (placeF x) a no0) else .fail)
  else bad_Wo 3
def worthE (b : TCT cB) (x : TCT cSc) (a : TCT cA) : Int := bif bOk b then bif placeOk b x then bif legalB b (placeF x) a then 0 else 10 else 3 else 2
def worthV (b : TCT cB) (x : TCT cSc) (a : TCT cA) : TCT cC := bif worthE b x a == 0 then wF (Val b) b (placeF x) a else zC
abbrev s_Worth : PureT := spec [cB, cSc, cA] [cC, cI] (fun _ => true) (fun x => (((worthV x.1 x.2.1 x.2.2.1).1, (worthV x.1 x.2.1 x.2.2.1).2.1, ()), worthE x.1 x.2.1 x.2.2.1, ()))
theorem wM_legal {b : TCT cB} (hb : OkB b) {p : TCT cP} (hp : OkP b p) {a : TCT cA} (ha : Legal b p a) {m : Memo} (hm : Right b m) : ∃ m', wM VX b p a m = some (wF (Val b) b p a, m') ∧ Right b m' := by
  obtain ⟨_, q1, _⟩ := legal_step hb hp ha
  obtain ⟨m', e, r⟩ := VX_ok hb q1 hm
  exact ⟨m', wM_ok hb hp ha e, r⟩
theorem T_Wo_ok (b : TCT cB) (x : TCT cSc) (a : TCT cA) : (T_Wo b x a).sat (fun y => y = (((worthV b x a).1, (worthV b x a).2.1, ()), worthE b x a, ())) := by
  have bad : ∀ e : Int, worthE b x a = e → (e == 0) = false → (bad_Wo e).sat (fun y => y = (((worthV b x a).1, (worthV b x a).2.1, ()), worthE b x a, ())) := by
    intro e h h2
    unfold worthV
    rw [h, h2]
    exact rfl
  unfold T_Wo
  rw [board0]
  cases hb : bOk b with
  | false =>
    have e : boardF b = 2 := by unfold boardF; rw [hb]; rfl
    rw [e]
    exact bad 2 (by unfold worthE; rw [hb]; rfl) rfl
  | true =>
    have hB := okB_of hb
    rw [Bool.not_true, cond_false]
    cases hp : placeOk b x with
    | false => exact bad 3 (by unfold worthE; rw [hb, hp]; rfl) rfl
    | true =>
      have hP := place_okP hp
      rw [cond_true]
      have good : legalB b (placeF x) a = true → (ok_Wo (wM VX b (placeF x) a no0)).sat (fun y => y = (((worthV b x a).1, (worthV b x a).2.1, ()), worthE b x a, ())) := by
        intro hl
        obtain ⟨m', e, _⟩ := wM_legal hB hP (legalB_of hB hP hl) (right_no0 (b := b))
        have hE : worthE b x a = 0 := by unfold worthE; rw [hb, hp, hl]; rfl
        unfold worthV
        rw [e, hE]
        exact rfl
      have ill : legalB b (placeF x) a = false → (bad_Wo 10).sat (fun y => y = (((worthV b x a).1, (worthV b x a).2.1, ()), worthE b x a, ())) := fun hl => bad 10 (by unfold worthE; rw [hb, hp, hl]; rfl) rfl
      have el : legalB b (placeF x) a = bif x.2.1 == (b.2.2.1.length : Int) then false else eqAct runA a || (rowsA b (cellsP (placeF x)) (placeF x).2.2.1).any (fun x => eqAct x a) := by
        unfold legalB actsF
        have : (placeF x).2.1 = x.2.1 := rfl
        rw [this]
        cases x.2.1 == (b.2.2.1.length : Int) <;> rfl
      cases hh : x.2.1 == (b.2.2.1.length : Int) with
      | true => exact ill (by rw [el, hh]; rfl)
      | false =>
        rw [cond_false]
        cases hr : eqAct runA a with
        | true => exact good (by rw [el, hh, hr]; rfl)
        | false =>
          refine ⟨selfL_ok _, ?_⟩
          have hN : okN b (x.2.2.1.length : Int) 0 = true := okN_ok hB (n := (x.2.2.1.length : Int)) hP.n.2
          have ea : al_Wo b x a = bif (rowsA b (cellsP (placeF x)) (placeF x).2.2.1).any (fun y => eqAct y a) then some (.inr ()) else some (.inl ()) := all_wt_eq (c_Wo b x a) _
          rw [hN, ea]
          cases hany : (rowsA b (cellsP (placeF x)) (placeF x).2.2.1).any (fun y => eqAct y a) with
          | true => exact good (by rw [el, hh, hr, hany]; rfl)
          | false => exact ill (by rw [el, hh, hr, hany]; rfl)
theorem loops_acts {sum : St → Tree (XE × St)} (hs : LoopOk Tryz.prog 45 lb_vo sum) (g : St → Tree (XE × St)) (d : Code) (hd : d ∈ loopsOf (bodyOf Tryz.f45)) (hg : assoc2 [((45, 2), sum)] 45 (keyOf d) = some g) : LoopOk Tryz.prog 45 d g := by
  have hl : loopsOf (bodyOf Tryz.f45) = [lb_vo, lb_vi] := by kernel_rfl
  rw [hl] at hd
  simp only [List.mem_cons, List.not_mem_nil, or_false] at hd
  rcases hd with rfl | rfl
  · have hk : keyOf lb_vo = 2 := by kernel_rfl
    rw [hk] at hg
    have h2 : some sum = some g := hg
    cases h2
    exact hs
  · have hk : keyOf lb_vi = 6 := by kernel_rfl
    rw [hk] at hg
    exact nomatch (show (none : Option (St → Tree (XE × St))) = some g from hg)
end V
end Go.Proofs.YtialgmhhkbdegaaGreat
