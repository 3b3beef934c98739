/- The best act: its contract. -/
import Derived.Test.YtialgmhhkbdegaaGreatJe
namespace Go.Proofs.YtialgmhhkbdegaaGreat
open Go.RowKit
namespace V
def R_be : FLay := { ks := [.d cA, .d .b], bs := bsS, nx := 1000 }
def E_be (b : Bool) : FLay := bif b then R_be else N_val
theorem E_be_nx (b : Bool) : 1000 ≤ (E_be b).nx := by cases b <;> exact Nat.le_refl _
abbrev BOp : Type := Option (TCT cA × Bool × Memo)
def zA : TCT cA := (0, 0, 0, 0, ())
def ba (r : BOp) : TCT cA := match r with
  | some x => x.1
  | none => zA
def bf (r : BOp) : Bool := match r with
  | some x => x.2.1
  | none => false
def bm (r : BOp) : Memo := match r with
  | some x => x.2.2
  | none => fun _ => none
def etaA (a : TCT cA) : TCT cA := (a.1, a.2.1, a.2.2.1, a.2.2.2.1, ())
def res_be (b : TCT cB) (r : BOp) : LeftF E_be := ⟨true, ((etaA (ba r), bf r, ()), cellsB b, (bm r, ()), ())⟩
def cb0 (b : TCT cB) (p : TCT cP) : Cb := ⟨cellsB b, cellsP p, (0, 0, 0, 0, ()), cellsP p⟩
/-- the best act of a place, by the values of the places after it -/
def beO (V : VM) (b : TCT cB) (p : TCT cP) (m : Memo) : BOp := bif p.2.1 == (b.2.2.1.length : Int) || okN b p.2.2.1 0 then
    (match all_b V (cb0 b p) (actsF b p) (zA, false, 0, m) with
     | some (.inl s) => some (s.1, s.2.1, s.2.2.2)
     | _ => none) else none
def fin_be (V : VM) (g : L_val.T) : Tree (LeftF E_be) := .br (beO V (brd g.2.1) g.1.2.1 g.2.2.1.1).isSome (.leaf (res_be (brd g.2.1) (beO V (brd g.2.1) g.1.2.1 g.2.2.1.1))) .fail
abbrev sp_be (V : VM) : Heap → Nat → List AV → Tree (Out × Heap × Nat) := fspec probeS L_val E_be (fin_be V)
noncomputable def loops_be (V : VM) : List ((Nat × Nat) × (St → Tree (XE × St))) := [((45, 2), loopSum2 L_bo E_bo (fin_bo V))]
noncomputable def X_be (V : VM) : Ctx := ctxS Tryz.prog plSe [(19, Tryz.f19), (36, Tryz.f36), (35, Tryz.f35), (29, Tryz.f29), (45, Tryz.f45)] (loops_be V) [(30, sp_wo V)]
def lf_be (b : TCT cB) (a : TCT cA) (f : Bool) (m : Memo) : Tree (LeftF E_be) := .leaf ⟨true, ((etaA a, f, ()), cellsB b, (m, ()), ())⟩
def s1_be (r : ROp) : Sb := (runA, true, (gv r).1, gm r)
def al_be (V : VM) (b : TCT cB) (p : TCT cP) (m : Memo) : Option (Sb ⊕ Unit) := all_b V (cb0 b p) (rowsA b (cellsP p) p.2.2.1) (s1_be (wM V b p runA m))
def T_be (V : VM) (b : TCT cB) (p : TCT cP) (m : Memo) : Tree (LeftF E_be) :=
  bif p.2.1 == (b.2.2.1.length : Int) then lf_be b zA false m else
  bif (wM V b p runA m).isSome then
    .need (selfL [lk_b]) (bif okN b p.2.2.1 0 && okX (al_be V b p m) then
      lf_be b (gX db (al_be V b p m)).1 (gX db (al_be V b p m)).2.1 (gX db (al_be V b p m)).2.2.2 else .fail) else .fail
theorem e_be (V : VM) (g : L_val.T) : evBody (X_be V) (evFn (X_be V) 8) 19 (ofKs L_val.ks g.1 L_val.nx) (L_val.lay.hp g) (L_val.lay.of g).nx (foutK E_be) = T_be V (brd g.2.1) g.1.2.1 g.2.2.1.1 := by kernel_rfl
theorem T_be_ok {V : VM} {b : TCT cB} {p : TCT cP} {m : Memo} {R : LeftF E_be → Prop} (h1 : (beO V b p m).isSome = true → R (res_be b (beO V b p m))) (h2 : (beO V b p m).isSome = true) : (T_be V b p m).sat R := by
  have h := h1 h2
  clear h1
  unfold beO actsF at h h2
  unfold T_be
  cases hp : p.2.1 == (b.2.2.1.length : Int) with
  | true =>
    rw [hp] at h
    exact h
  | false =>
    rw [hp] at h h2
    rw [cond_false]
    rw [Bool.false_or] at h h2
    cases hN : okN b p.2.2.1 0 with
    | false => rw [hN] at h2; cases h2
    | true =>
      rw [hN] at h h2
      simp only [cond_true, cond_false] at h h2
      unfold all_b at h h2
      rw [foldX] at h h2
      have e1 : g_b V (cb0 b p) (zA, false, 0, m) runA = bif (wM V b p runA m).isSome then some (.inl (s1_be (wM V b p runA m))) else none := rfl
      rw [e1] at h h2
      cases hw : (wM V b p runA m).isSome with
      | false =>
        exfalso
        rw [hw] at h2
        cases h2
      | true =>
        rw [hw] at h h2
        refine ⟨selfL_ok _, ?_⟩
        have e : foldX (g_b V (cb0 b p)) (rowsA b (cellsP p) p.2.2.1) (s1_be (wM V b p runA m)) = al_be V b p m := rfl
        simp only [cond_true] at h h2
        rw [e] at h h2
        cases hf : al_be V b p m with
        | none => rw [hf] at h2; cases h2
        | some y =>
          cases y with
          | inr u => rw [hf] at h2; cases h2
          | inl s' =>
            rw [hf] at h
            exact h
theorem loops_be_ok {V : VM} (hV : SpecOk Tryz.prog 30 (sp_wo V)) : ∀ q ∈ (X_be V).fns, ∀ d ∈ loopsOf (bodyOf q.2), ∀ g, assoc2 (loops_be V) q.1 (keyOf d) = some g → LoopOk Tryz.prog q.1 d g := by
  intro q hq d hd g hg
  change q ∈ [(19, Tryz.f19), (36, Tryz.f36), (35, Tryz.f35), (29, Tryz.f29), (45, Tryz.f45)] at hq
  simp only [List.mem_cons, List.not_mem_nil, or_false] at hq
  rcases hq with rfl | rfl | rfl | rfl | rfl
  · exact nomatch (show (none : Option (St → Tree (XE × St))) = some g from hg)
  · exact nomatch (show (none : Option (St → Tree (XE × St))) = some g from hg)
  · exact nomatch (show (none : Option (St → Tree (XE × St))) = some g from hg)
  · exact nomatch (show (none : Option (St → Tree (XE × St))) = some g from hg)
  · have hl : loopsOf (bodyOf Tryz.f45) = [lb_vo, lb_vi] := by kernel_rfl
    simp only at hd hg
    rw [hl] at hd
    simp only [List.mem_cons, List.not_mem_nil, or_false] at hd
    rcases hd with rfl | rfl
    · have hk : keyOf lb_vo = 2 := by kernel_rfl
      rw [hk] at hg
      have h2 : some (loopSum2 L_bo E_bo (fin_bo V)) = some g := hg
      cases h2
      exact l_bo hV
    · have hk : keyOf lb_vi = 6 := by kernel_rfl
      rw [hk] at hg
      exact nomatch (show (none : Option (St → Tree (XE × St))) = some g from hg)
theorem X_be_ok {V : VM} (hV : SpecOk Tryz.prog 30 (sp_wo V)) : CtxOk (X_be V) := ctxS_ok mixed puSe (fns_cons is_best (fns_cons is_best1 (fns_cons is_firstA (fns_cons is_acts (fns_cons is_acts1 fns_nil))))) (loops_be_ok hV) (one_spec is_worth.plain hV)
theorem sp_be_ok {V : VM} (hV : SpecOk Tryz.prog 30 (sp_wo V)) : SpecOk Tryz.prog 19 (sp_be V) :=
  fspec_ok (X := X_be V) (X_be_ok hV) 8 E_be_nx fun g R _ hf => by
    rw [e_be]
    have h2 : (beO V (brd g.2.1) g.1.2.1 g.2.2.1.1).isSome = true := by
      cases hs : (beO V (brd g.2.1) g.1.2.1 g.2.2.1.1).isSome with
      | true => rfl
      | false => exact (hf.2 hs).elim
    exact sat_loose (T_be_ok hf.1 h2) fun x hx _ => hx
end V
end Go.Proofs.YtialgmhhkbdegaaGreat
