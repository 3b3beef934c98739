/- The value of a place: its contract. -/
import Derived.Test.YtialgmhhkbdegaaGreatGi
namespace Go.Proofs.YtialgmhhkbdegaaGreat
open Go.RowKit
namespace V
def cellsP (p : TCT cP) : SKTs kP := (p.1, p.2.1, p.2.2.1, p.2.2.2.1.1, p.2.2.2.1.2.1, p.2.2.2.2.1.1, p.2.2.2.2.1.2.1, ())
def putM (m : Memo) (p : TCT cP) (v : TCT cC) : Memo := fun i => bif beqD cP i p then some v else m i
noncomputable def X_va (V : VM) : Ctx := ctxS Tryz.prog plSe [(16, Tryz.f16), (29, Tryz.f29), (45, Tryz.f45)] [((45, 2), loopSum2 L_vo E_vo (fin_vo V))] [(30, sp_wo V)]
def runA : TCT cA := (1, 0, 0, 0, ())
def zC : TCT cC := (0, 0, ())
def lf_va (b : TCT cB) (v : TCT cC) (m : Memo) : Tree (LeftF E_val) := .leaf ⟨true, (((v.1, v.2.1, ()), ()), cellsB b, (m, ()), ())⟩
def s1_va (r : ROp) : SV := ((max 0 (gv r).1, max 0 (gv r).2.1, ()), gm r)
def fo_va (V : VM) (b : TCT cB) (p : TCT cP) (m : Memo) : Option SV := foldO (stepA V b p) (s1_va (wM V b p runA m)) (rowsA b (cellsP p) p.2.2.1)
def T_va (V : VM) (b : TCT cB) (p : TCT cP) (m : Memo) : Tree (LeftF E_val) :=
  bif (m p).isSome then lf_va b ((m p).getD zC) m else
  bif p.2.1 == (b.2.2.1.length : Int) then lf_va b zC (putM m p zC) else
  bif (wM V b p runA m).isSome then
    .need (selfL [lk_v]) (bif okN b p.2.2.1 0 && (fo_va V b p m).isSome then
      lf_va b (gs (fo_va V b p m)).1 (putM (gs (fo_va V b p m)).2 p (gs (fo_va V b p m)).1) else .fail) else .fail
theorem e_va (V : VM) (g : L_val.T) : evBody (X_va V) (evFn (X_va V) 8) 16 (ofKs L_val.ks g.1 L_val.nx) (L_val.lay.hp g) (L_val.lay.of g).nx (foutK E_val) = T_va V (brd g.2.1) g.1.2.1 g.2.2.1.1 := by kernel_rfl
/-- the acts of a place -/
def actsF (b : TCT cB) (p : TCT cP) : List (TCT cA) := bif p.2.1 == (b.2.2.1.length : Int) then [] else runA :: rowsA b (cellsP p) p.2.2.1
/-- the value of a place, by that of the places after it -/
def valS (V : VM) : VM := fun b p m => match m p with
  | some v => some (v, m)
  | none => bif p.2.1 == (b.2.2.1.length : Int) || okN b p.2.2.1 0 then (foldO (stepA V b p) (zC, m) (actsF b p)).map fun s => (s.1, putM s.2 p s.1) else none
def valN : Nat → VM
  | 0 => fun _ _ _ => none
  | n + 1 => valS (valN n)
theorem T_va_ok {V : VM} {b : TCT cB} {p : TCT cP} {m : Memo} {R : LeftF E_val → Prop} (h1 : (valS V b p m).isSome = true → R (res_val b (valS V b p m))) (h2 : (valS V b p m).isSome = true) : (T_va V b p m).sat R := by
  have h := h1 h2
  clear h1
  unfold valS actsF at h h2
  unfold T_va
  cases hm : m p with
  | some v =>
    rw [hm] at h
    exact h
  | none =>
    rw [hm] at h h2
    simp only at h h2
    rw [show (none : Option (TCT cC)).isSome = false from rfl, cond_false]
    cases hp : p.2.1 == (b.2.2.1.length : Int) with
    | true =>
      rw [hp] at h
      exact h
    | false =>
      rw [hp] at h h2
      rw [cond_false]
      rw [Bool.false_or] at h h2
      cases hN : okN b p.2.2.1 0 with
      | false => rw [hN] at h2; cases h2
      | true =>
        rw [hN] at h h2
        simp only [cond_true, cond_false, foldO] at h h2
        unfold stepA at h h2
        cases hw : wM V b p runA m with
        | none =>
          exfalso
          change wM V b p runA m = none at hw
          simp only [hw] at h2
          cases h2
        | some w =>
          simp only [hw, Option.map_some, Option.bind_some] at h h2
          refine ⟨selfL_ok _, ?_⟩
          have e : fo_va V b p m = foldO (stepA V b p) (maxC zC w.1, w.2) (rowsA b (cellsP p) p.2.2.1) := by
            unfold fo_va s1_va
            rw [hw]
            rfl
          have e2 : foldO (stepA V b p) (maxC zC w.1, w.2) (rowsA b (cellsP p) p.2.2.1) = foldO (fun s a => (wM V b p a s.2).map fun w => (maxC s.1 w.1, w.2)) (maxC zC w.1, w.2) (rowsA b (cellsP p) p.2.2.1) := rfl
          rw [← e2, ← e] at h h2
          cases hf : fo_va V b p m with
          | none => rw [hf] at h2; cases h2
          | some s' =>
            rw [hf] at h
            exact h
theorem loops_va {V : VM} (hV : SpecOk Tryz.prog 30 (sp_wo V)) : ∀ q ∈ (X_va V).fns, ∀ d ∈ loopsOf (bodyOf q.2), ∀ g, assoc2 [((45, 2), loopSum2 L_vo E_vo (fin_vo V))] q.1 (keyOf d) = some g → LoopOk Tryz.prog q.1 d g := by
  intro q hq d hd g hg
  change q ∈ [(16, Tryz.f16), (29, Tryz.f29), (45, Tryz.f45)] at hq
  simp only [List.mem_cons, List.not_mem_nil, or_false] at hq
  rcases hq with rfl | rfl | rfl
  · exact nomatch (show (none : Option (St → Tree (XE × St))) = some g from hg)
  · exact nomatch (show (none : Option (St → Tree (XE × St))) = some g from hg)
  · have hl : loopsOf (bodyOf Tryz.f45) = [lb_vo, lb_vi] := by kernel_rfl
    simp only at hd hg
    rw [hl] at hd
    simp only [List.mem_cons, List.not_mem_nil, or_false] at hd
    rcases hd with rfl | rfl
    · have hk : keyOf lb_vo = 2 := by kernel_rfl
      rw [hk] at hg
      simp [assoc2] at hg
      subst hg
      exact l_vo hV
    · have hk : keyOf lb_vi = 6 := by kernel_rfl
      rw [hk] at hg
      exact nomatch (show (none : Option (St → Tree (XE × St))) = some g from hg)
theorem X_va_ok {V : VM} (hV : SpecOk Tryz.prog 30 (sp_wo V)) : CtxOk (X_va V) := ctxS_ok mixed puSe (fns_cons is_value (fns_cons is_acts (fns_cons is_acts1 fns_nil))) (loops_va hV) (one_spec is_worth.plain hV)
theorem sp_val_step {V : VM} (hV : SpecOk Tryz.prog 30 (sp_wo V)) : SpecOk Tryz.prog 16 (sp_val (valS V)) :=
  fspec_ok (X := X_va V) (X_va_ok hV) 8 E_val_nx fun g R _ hf => by
    rw [e_va]
    have h2 : (valS V (brd g.2.1) g.1.2.1 g.2.2.1.1).isSome = true := by
      cases hs : (valS V (brd g.2.1) g.1.2.1 g.2.2.1.1).isSome with
      | true => rfl
      | false => exact (hf.2 hs).elim
    exact sat_loose (T_va_ok hf.1 h2) fun x hx _ => hx
theorem sp_valN : ∀ n, SpecOk Tryz.prog 16 (sp_val (valN n))
  | 0 => fspec_ok (X := ctx Tryz.prog [] []) (ctx_ok mixed puOk_nil fns_nil) 0 E_val_nx fun g R _ hf => (hf.2 rfl).elim
  | n + 1 => sp_val_step (sp_wo_ok (sp_valN n))
theorem sp_woN (n : Nat) : SpecOk Tryz.prog 30 (sp_wo (valN n)) := sp_wo_ok (sp_valN n)
end V
end Go.Proofs.YtialgmhhkbdegaaGreat
