/- The scene of a place. -/
import Derived.Test.YtialgmhhkbdegaaGreatJh
namespace Go.Proofs.YtialgmhhkbdegaaGreat
open Go.RowKit
namespace V
theorem is_scene : FnIs Tryz.prog (26, Tryz.f26) := ⟨Tryz.func26, by kernel_rfl, by kernel_rfl⟩
theorem is_cloneI : FnIs Tryz.prog (41, Tryz.f41) := ⟨Tryz.func41, by kernel_rfl, by kernel_rfl⟩
theorem is_cloneB : FnIs Tryz.prog (42, Tryz.f42) := ⟨Tryz.func42, by kernel_rfl, by kernel_rfl⟩
def alt3 {α : Type} (n : Int) (f : Nat → Tree α) : Tree α := bif decide (n = ↑(0 : Nat)) then f 0 else bif decide (n = ↑(0 + 1 : Nat)) then f 1 else bif decide (n = ↑(0 + 1 + 1 : Nat)) then f 2 else .fail
def ballsF (p : TCT cP) (n : Nat) : List Int := [p.2.2.2.1.1, p.2.2.2.1.2.1].take n
def deadF (p : TCT cP) (n : Nat) : List Bool := [p.2.2.2.2.1.1, p.2.2.2.2.1.2.1].take n
def sceneF (p : TCT cP) : TCT cSc := (p.1, p.2.1, ballsF p p.2.2.1.toNat, deadF p p.2.2.1.toNat, ())
def plB (p : TCT cP) : Option Ob := some (.blk { ty := 66, cs := [.int .i64 p.1, .int .i64 p.2.1, .int .i64 p.2.2.1, .int .i64 p.2.2.2.1.1, .int .i64 p.2.2.2.1.2.1, .bool p.2.2.2.2.1.1, .bool p.2.2.2.2.1.2.1] })
def nd (p : TCT cP) : Prop := plB p = plB p ∧ True
abbrev s_scene : PureT := spec [cP] [cSc] (fun x => decide (0 ≤ x.1.2.2.1 ∧ x.1.2.2.1 ≤ 2)) (fun x => (((sceneF x.1).1, (sceneF x.1).2.1, (sceneF x.1).2.2.1, (sceneF x.1).2.2.2.1, ()), ()))
def T_sc (p : TCT cP) : Tree (TCTs [cSc]) := alt3 p.2.2.1 fun _ => alt3 p.2.2.1 fun j => alt3 p.2.2.1 fun k => .need (nd p) (.need (nd p) (.leaf ((p.1, p.2.1, ballsF p j, deadF p k, ()), ())))
noncomputable def X_sc : Ctx := ctx Tryz.prog [] [(26, Tryz.f26), (41, Tryz.f41), (42, Tryz.f42)]
theorem X_sc_ok : CtxOk X_sc := ctx_ok mixed puOk_nil (fns_cons is_scene (fns_cons is_cloneI (fns_cons is_cloneB fns_nil)))
theorem T_sc_eq (x : TCTs [cP]) : evFn X_sc 8 (.fn 26) (encAs [cP] x) noHeap 0 (outK Tryz.prog [cSc]) = T_sc x.1 := by kernel_rfl
theorem alt3_sat {α : Type} {n : Int} {f : Nat → Tree α} {R : α → Prop} (h : 0 ≤ n ∧ n ≤ 2) (k : (f n.toNat).sat R) : (alt3 n f).sat R := by
  have : n = 0 ∨ n = 1 ∨ n = 2 := by omega
  rcases this with rfl | rfl | rfl <;> exact k
theorem T_sc_ok (p : TCT cP) (h : 0 ≤ p.2.2.1 ∧ p.2.2.1 ≤ 2) : (T_sc p).sat (fun y => y = (((sceneF p).1, (sceneF p).2.1, (sceneF p).2.2.1, (sceneF p).2.2.2.1, ()), ())) :=
  alt3_sat h (alt3_sat h (alt3_sat h ⟨⟨rfl, trivial⟩, ⟨rfl, trivial⟩, rfl⟩))
theorem q_scene : PureOk Tryz.prog 26 s_scene := q_by X_sc_ok 8 (fun x => T_sc x.1) T_sc_eq fun x h _ => T_sc_ok x.1 (of_decide_eq_true h)
/-! After -/
theorem is_tAfter : FnIs Tryz.prog (12, Tryz.f12) := ⟨Tryz.func12, by kernel_rfl, by kernel_rfl⟩
def plAf : List (Nat × PureT) := (26, s_scene) :: plEx
theorem puAf : PuOk Tryz.prog plAf := puOk_cons is_scene.plain q_scene puEx
noncomputable def loops_Af : List ((Nat × Nat) × (St → Tree (XE × St))) := [((45, 2), loopSum2 L_afo E_afo fin_afo)]
noncomputable def X_Af : Ctx := ctxS Tryz.prog plAf [(12, Tryz.f12), (15, Tryz.f15), (27, Tryz.f27), (14, Tryz.f14), (25, Tryz.f25), (29, Tryz.f29), (45, Tryz.f45)] loops_Af spEx
def c_Af (b : TCT cB) (x : TCT cSc) (a : TCT cA) : Caf := ⟨a, (0, 0, [], [], ()), (0, ()), no0, cellsB b, cellsP (placeF x), a, cellsP (placeF x)⟩
def al_Af (b : TCT cB) (x : TCT cSc) (a : TCT cA) : Option (Unit ⊕ Unit) := all_af (c_Af b x a) (rowsA b (cellsP (placeF x)) (placeF x).2.2.1) ()
abbrev TAf := Tree (TCTs [cSc, cI])
def zSc : TCT cSc := (0, 0, [], [], ())
def bad_Af (e : Int) : TAf := .leaf (zSc, e, ())
def etaSc (x : TCT cSc) : TCT cSc := (x.1, x.2.1, x.2.2.1, x.2.2.2.1, ())
def ok_Af (b : TCT cB) (p : TCT cP) (a : TCT cA) : TAf := bif actOk b p a then bif decide (0 ≤ p.2.2.1 ∧ p.2.2.1 ≤ 2) then .leaf (etaSc (sceneF (afterF b p a)), 0, ()) else .fail else .fail
def T_Af (b : TCT cB) (x : TCT cSc) (a : TCT cA) : TAf := bif boardF b != 0 then bad_Af (boardF b) else
  bif placeOk b x then bif x.2.1 == (b.2.2.1.length : Int) then bad_Af 10 else
    bif eqAct runA a then ok_Af b (placeF x) a else
    .need (selfL [lk_af]) (bif okN b (x.2.2.1.length : Int) 0 && okX (al_Af b x a) then bad_Af 10 else
      bif okN b (x.2.2.1.length : Int) 0 && isR (al_Af b x a) then ok_Af b (placeF x) a else .fail)
  else bad_Af 3
theorem T_Af_eq (y : TCTs [cB, cSc, cA]) : evFn X_Af 8 (.fn 12) (encAs [cB, cSc, cA] y) noHeap 0 (outK Tryz.prog [cSc, cI]) = T_Af y.1 y.2.1 y.2.2.1 := by kernel_rfl
def afterV (b : TCT cB) (x : TCT cSc) (a : TCT cA) : TCT cSc := bif worthE b x a == 0 then sceneF (afterF b (placeF x) a) else zSc
abbrev s_After : PureT := spec [cB, cSc, cA] [cSc, cI] (fun _ => true) (fun x => (((afterV x.1 x.2.1 x.2.2.1).1, (afterV x.1 x.2.1 x.2.2.1).2.1, (afterV x.1 x.2.1 x.2.2.1).2.2.1, (afterV x.1 x.2.1 x.2.2.1).2.2.2.1, ()), worthE x.1 x.2.1 x.2.2.1, ()))
theorem T_Af_ok (b : TCT cB) (x : TCT cSc) (a : TCT cA) : (T_Af b x a).sat (fun y => y = (((afterV b x a).1, (afterV b x a).2.1, (afterV b x a).2.2.1, (afterV b x a).2.2.2.1, ()), worthE b x a, ())) := by
  have bad : ∀ e : Int, worthE b x a = e → (e == 0) = false → (bad_Af e).sat (fun y => y = (((afterV b x a).1, (afterV b x a).2.1, (afterV b x a).2.2.1, (afterV b x a).2.2.2.1, ()), worthE b x a, ())) := by
    intro e h h2
    unfold afterV
    rw [h, h2]
    exact rfl
  unfold T_Af
  rw [board0]
  cases hb : bOk b with
  | false =>
    have e : boardF b = 2 := by unfold boardF; rw [hb]; rfl
    rw [e]
    exact bad 2 (by unfold worthE; rw [hb]; rfl) rfl
  | true =>
    have hB := okB_of hb
    rw [Bool.not_true, cond_false]
    cases hp : placeOk b x with
    | false => exact bad 3 (by unfold worthE; rw [hb, hp]; rfl) rfl
    | true =>
      have hP := place_okP hp
      rw [cond_true]
      have good : legalB b (placeF x) a = true → (ok_Af b (placeF x) a).sat (fun y => y = (((afterV b x a).1, (afterV b x a).2.1, (afterV b x a).2.2.1, (afterV b x a).2.2.2.1, ()), worthE b x a, ())) := by
        intro hl
        obtain ⟨h1, _⟩ := legal_step hB hP (legalB_of hB hP hl)
        have hE : worthE b x a = 0 := by unfold worthE; rw [hb, hp, hl]; rfl
        have hn : 0 ≤ (placeF x).2.2.1 ∧ (placeF x).2.2.1 ≤ 2 := hP.n
        unfold ok_Af afterV
        rw [h1, decide_eq_true hn, hE]
        exact rfl
      have ill : legalB b (placeF x) a = false → (bad_Af 10).sat (fun y => y = (((afterV b x a).1, (afterV b x a).2.1, (afterV b x a).2.2.1, (afterV b x a).2.2.2.1, ()), worthE b x a, ())) := fun hl => bad 10 (by unfold worthE; rw [hb, hp, hl]; rfl) rfl
      have el : legalB b (placeF x) a = bif x.2.1 == (b.2.2.1.length : Int) then false else eqAct runA a || (rowsA b (cellsP (placeF x)) (placeF x).2.2.1).any (fun x => eqAct x a) := by
        unfold legalB actsF
        have : (placeF x).2.1 = x.2.1 := rfl
        rw [this]
        cases x.2.1 == (b.2.2.1.length : Int) <;> rfl
      cases hh : x.2.1 == (b.2.2.1.length : Int) with
      | true => exact ill (by rw [el, hh]; rfl)
      | false =>
        rw [cond_false]
        cases hr : eqAct runA a with
        | true => exact good (by rw [el, hh, hr]; rfl)
        | false =>
          refine ⟨selfL_ok _, ?_⟩
          have hN : okN b (x.2.2.1.length : Int) 0 = true := okN_ok hB (n := (x.2.2.1.length : Int)) hP.n.2
          have ea : al_Af b x a = bif (rowsA b (cellsP (placeF x)) (placeF x).2.2.1).any (fun y => eqAct y a) then some (.inr ()) else some (.inl ()) := all_af_eq (c_Af b x a) _
          rw [hN, ea]
          cases hany : (rowsA b (cellsP (placeF x)) (placeF x).2.2.1).any (fun y => eqAct y a) with
          | true => exact good (by rw [el, hh, hr, hany]; rfl)
          | false => exact ill (by rw [el, hh, hr, hany]; rfl)
theorem loops_Af_ok : ∀ q ∈ X_Af.fns, ∀ d ∈ loopsOf (bodyOf q.2), ∀ g, assoc2 loops_Af q.1 (keyOf d) = some g → LoopOk Tryz.prog q.1 d g := by
  intro q hq d hd g hg
  change q ∈ [(12, Tryz.f12), (15, Tryz.f15), (27, Tryz.f27), (14, Tryz.f14), (25, Tryz.f25), (29, Tryz.f29), (45, Tryz.f45)] at hq
  simp only [List.mem_cons, List.not_mem_nil, or_false] at hq
  rcases hq with rfl | rfl | rfl | rfl | rfl | rfl | rfl
  · exact nomatch (show (none : Option (St → Tree (XE × St))) = some g from hg)
  · exact nomatch (show (none : Option (St → Tree (XE × St))) = some g from hg)
  · exact nomatch (show (none : Option (St → Tree (XE × St))) = some g from hg)
  · exact nomatch (show (none : Option (St → Tree (XE × St))) = some g from hg)
  · exact nomatch (show (none : Option (St → Tree (XE × St))) = some g from hg)
  · exact nomatch (show (none : Option (St → Tree (XE × St))) = some g from hg)
  · exact loops_acts l_afo g d hd hg
theorem X_Af_ok : CtxOk X_Af := ctxS_ok mixed puAf (fns_cons is_tAfter (fns_cons is_open (fns_cons is_must (fns_cons is_catch (fns_cons is_legal (fns_cons is_acts (fns_cons is_acts1 fns_nil))))))) loops_Af_ok spEx_ok
theorem q_After : PureOk Tryz.prog 12 s_After := q_by X_Af_ok 8 (fun x => T_Af x.1 x.2.1 x.2.2.1) T_Af_eq fun x _ _ => T_Af_ok x.1 x.2.1 x.2.2.1
end V
end Go.Proofs.YtialgmhhkbdegaaGreat
