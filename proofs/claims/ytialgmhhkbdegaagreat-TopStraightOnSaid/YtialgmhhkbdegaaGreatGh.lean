/- The value of a place: the walk. -/
import Derived.Test.YtialgmhhkbdegaaGreatGg
namespace Go.Proofs.YtialgmhhkbdegaaGreat
open Go.RowKit
namespace V
abbrev Memo : Type := TCT cP → Option (TCT cC)
abbrev kS : List SK := [.d cI, .d cI, .d (.sl cI), .d cI, .d cI, .d cI, .d cI, .d cI, .d cI, .d cI, .d cI, .d cI, .d cI, .d cI, .d cI, .q 1]
def bsS : List BK := [(0, 82, kS), (1, 0, [.m cP cC])]
/-- the board of a search, and its cells -/
def brd (x : SKTs kS) : TCT cB := (x.1, x.2.1, x.2.2.1, ((x.2.2.2.1, x.2.2.2.2.1, ()), (x.2.2.2.2.2.1, x.2.2.2.2.2.2.1, ()), (x.2.2.2.2.2.2.2.1, x.2.2.2.2.2.2.2.2.1, ()), ()), ((x.2.2.2.2.2.2.2.2.2.1, x.2.2.2.2.2.2.2.2.2.2.1, ()), (x.2.2.2.2.2.2.2.2.2.2.2.1, x.2.2.2.2.2.2.2.2.2.2.2.2.1, ()), (x.2.2.2.2.2.2.2.2.2.2.2.2.2.1, x.2.2.2.2.2.2.2.2.2.2.2.2.2.2.1, ()), ()), ())
def cellsB (b : TCT cB) : SKTs kS := (b.1, b.2.1, b.2.2.1, b.2.2.2.1.1.1, b.2.2.2.1.1.2.1, b.2.2.2.1.2.1.1, b.2.2.2.1.2.1.2.1, b.2.2.2.1.2.2.1.1, b.2.2.2.1.2.2.1.2.1, b.2.2.2.2.1.1.1, b.2.2.2.2.1.1.2.1, b.2.2.2.2.1.2.1.1, b.2.2.2.2.1.2.1.2.1, b.2.2.2.2.1.2.2.1.1, b.2.2.2.2.1.2.2.1.2.1, (), ())
def L_val : FLay := { ks := [.p 0 0 0 0, .d cP], bs := bsS, nx := 1000 }
def R_val : FLay := { ks := [.d cC], bs := bsS, nx := 1000 }
def N_val : FLay := { ks := [], bs := [], nx := 1000 }
def E_val (b : Bool) : FLay := bif b then R_val else N_val
abbrev VM : Type := TCT cB → TCT cP → Memo → Option (TCT cC × Memo)
def gv (r : Option (TCT cC × Memo)) : TCT cC := match r with
  | some x => (x.1.1, x.1.2.1, ())
  | none => (0, 0, ())
def gm (r : Option (TCT cC × Memo)) : Memo := match r with
  | some x => x.2
  | none => fun _ => none
def res_val (b : TCT cB) (r : Option (TCT cC × Memo)) : LeftF E_val := ⟨true, ((((gv r).1, (gv r).2.1, ()), ()), cellsB b, (gm r, ()), ())⟩
def fin_val (V : VM) (g : L_val.T) : Tree (LeftF E_val) := .br (V (brd g.2.1) g.1.2.1 g.2.2.1.1).isSome (.leaf (res_val (brd g.2.1) (V (brd g.2.1) g.1.2.1 g.2.2.1.1))) .fail
def probeS (hp : Heap) (args : List AV) : Option (List Nat) := match args with
  | .ptr id _ _ _ :: _ => match hp id with
    | some (.blk b) => match nth b.cs 15 with
      | some (.mp m) => some [id, m]
      | _ => none
    | _ => none
  | _ => none
def L_wo : FLay := { ks := [.p 0 0 0 0, .d cP, .d cA], bs := bsS, nx := 1000 }
abbrev ROp : Type := Option (TCT cC × Memo)
def wT (b : TCT cB) (r : ROp) : Tree (LeftF E_val) := bif r.isSome then .leaf (res_val b r) else .fail
def pick3 {α : Type} (t : TCT (.st [cC, cC, cC])) (aw : Int) (k : TCT cC → Tree α) : Tree α :=
  bif decide (aw = ↑(0 : Nat)) then k t.1 else bif decide (aw = ↑(0 + 1 : Nat)) then k t.2.1 else bif decide (aw = ↑(0 + 1 + 1 : Nat)) then k t.2.2.1 else .fail
def kT (b : TCT cB) (r : ROp) (gain : Int) (c : TCT cC) : Tree (LeftF E_val) :=
  bif fitC (un c) && gainOk (un (gv r)) gain then .leaf ⟨true, ((((timesF (un c) (un (gv r)) gain).1, (timesF (un c) (un (gv r)) gain).2, ()), ()), cellsB b, (gm r, ()), ())⟩ else .fail
def T_wo (V : VM) (b : TCT cB) (p : TCT cP) (a : TCT cA) (m : Memo) : Tree (LeftF E_val) :=
  bif actOk b p a then bif (V b (afterF b p a) m).isSome then
    bif a.1 == 1 then bif runOk b p then bif b.1 != 0 then pick3 b.2.2.2.1 (awayF b p.1 (hoopAt b p)) (kT b (V b (afterF b p a) m) 1000000) else .fail else .fail
    else bif decide (a.2.1 = ↑(0 : Nat)) then bif b.1 != 0 then pick3 b.2.2.2.2.1 (awayF b p.1 p.2.2.2.1.1) (kT b (V b (afterF b p a) m) 0) else .fail else
      bif decide (a.2.1 = ↑(0 + 1 : Nat)) then bif b.1 != 0 then pick3 b.2.2.2.2.1 (awayF b p.1 p.2.2.2.1.2.1) (kT b (V b (afterF b p a) m) 0) else .fail else .fail
  else .fail else .fail
def pickO (t : TCT (.st [cC, cC, cC])) (aw : Int) : Option (TCT cC) := bif decide (aw = 0) then some t.1 else bif decide (aw = 1) then some t.2.1 else bif decide (aw = 2) then some t.2.2.1 else none
def kO (r : TCT cC × Memo) (gain : Int) (c : TCT cC) : ROp := bif fitC (un c) && gainOk (un r.1) gain then some (mk (timesF (un c) (un r.1) gain), r.2) else none
/-- the bounds by which an act's worth is multiplied -/
def chanceO (b : TCT cB) (p : TCT cP) (a : TCT cA) : Option (TCT cC) :=
  bif b.1 != 0 then bif a.1 == 1 then bif runOk b p then pickO b.2.2.2.1 (awayF b p.1 (hoopAt b p)) else none
    else bif decide (a.2.1 = 0) then pickO b.2.2.2.2.1 (awayF b p.1 p.2.2.2.1.1) else bif decide (a.2.1 = 1) then pickO b.2.2.2.2.1 (awayF b p.1 p.2.2.2.1.2.1) else none else none
def gainF (a : TCT cA) : Int := bif a.1 == 1 then 1000000 else 0
/-- the worth of an act, by the value of what is after it -/
def wM (V : VM) (b : TCT cB) (p : TCT cP) (a : TCT cA) (m : Memo) : ROp :=
  bif actOk b p a then (V b (afterF b p a) m).bind fun r => (chanceO b p a).bind (kO r (gainF a)) else none
theorem kT_eq (b : TCT cB) (r : TCT cC × Memo) (gain : Int) (c : TCT cC) : kT b (some r) gain c = wT b (kO r gain c) := by
  obtain ⟨⟨u, v, ⟨⟩⟩, m⟩ := r
  show (bif fitC (un c) && gainOk (un (u, v, ())) gain then _ else _) = wT b (bif fitC (un c) && gainOk (un (u, v, ())) gain then _ else _)
  cases fitC (un c) && gainOk (un (u, v, ())) gain <;> rfl
theorem pick3_eq (b : TCT cB) (r : TCT cC × Memo) (gain : Int) (t : TCT (.st [cC, cC, cC])) (aw : Int) : pick3 t aw (kT b (some r) gain) = wT b ((pickO t aw).bind (kO r gain)) := by
  have h : ∀ (x y z : TCT cC), (bif decide (aw = 0) then kT b (some r) gain x else bif decide (aw = 1) then kT b (some r) gain y else bif decide (aw = 2) then kT b (some r) gain z else .fail) = wT b (Option.bind (bif decide (aw = 0) then some x else bif decide (aw = 1) then some y else bif decide (aw = 2) then some z else none) (kO r gain)) := by
    intro x y z
    rw [kT_eq, kT_eq, kT_eq]
    cases decide (aw = 0)
    · cases decide (aw = 1)
      · cases decide (aw = 2) <;> rfl
      · rfl
    · rfl
  exact h _ _ _
theorem T_wo_eq (V : VM) (b : TCT cB) (p : TCT cP) (a : TCT cA) (m : Memo) : T_wo V b p a m = wT b (wM V b p a m) := by
  unfold T_wo wM
  cases actOk b p a with
  | false => rfl
  | true =>
    simp only [cond_true]
    cases V b (afterF b p a) m with
    | none => rfl
    | some r =>
      show (bif a.1 == 1 then _ else bif decide (a.2.1 = 0) then _ else bif decide (a.2.1 = 1) then _ else _) = _
      rw [pick3_eq, pick3_eq, pick3_eq, Option.bind_some]
      unfold chanceO gainF
      cases a.1 == 1 with
      | true => cases runOk b p <;> cases b.1 != 0 <;> rfl
      | false =>
        cases decide (a.2.1 = 0)
        · cases decide (a.2.1 = 1) <;> cases b.1 != 0 <;> rfl
        · cases b.1 != 0 <;> rfl
def fin_wo (V : VM) (g : L_wo.T) : Tree (LeftF E_val) := .br (wM V (brd g.2.1) g.1.2.1 g.1.2.2.1 g.2.2.1.1).isSome (.leaf (res_val (brd g.2.1) (wM V (brd g.2.1) g.1.2.1 g.1.2.2.1 g.2.2.1.1))) .fail
abbrev sp_val (V : VM) : Heap → Nat → List AV → Tree (Out × Heap × Nat) := fspec probeS L_val E_val (fin_val V)
abbrev sp_wo (V : VM) : Heap → Nat → List AV → Tree (Out × Heap × Nat) := fspec probeS L_wo E_val (fin_wo V)
noncomputable def X_wo (V : VM) : Ctx := ctxS Tryz.prog plSe [(30, Tryz.f30)] [] [(16, sp_val V)]
theorem E_val_nx (b : Bool) : 1000 ≤ (E_val b).nx := by cases b <;> exact Nat.le_refl _
theorem br_wT {b : TCT cB} {r : ROp} {R : LeftF E_val → Prop} (h : (Tree.br r.isSome (.leaf (res_val b r)) .fail).sat R) : (wT b r).sat R := by
  unfold wT
  cases hr : r.isSome with
  | true => exact h.1 hr
  | false => exact (h.2 hr).elim
theorem no_loops {P : Program} {fns : List (Nat × Func)} : ∀ p ∈ fns, ∀ d ∈ loopsOf (bodyOf p.2), ∀ g, assoc2 ([] : List ((Nat × Nat) × (St → Tree (XE × St)))) p.1 (keyOf d) = some g → LoopOk P p.1 d g := fun _ _ _ _ _ h => by simp [assoc2] at h
theorem one_spec {P : Program} {f : Nat} {sp : Heap → Nat → List AV → Tree (Out × Heap × Nat)} (h : Plain P f) (k : SpecOk P f sp) : ∀ p ∈ [(f, sp)], Plain P p.1 ∧ SpecOk P p.1 p.2 := fun p hp => by
  rw [List.mem_singleton] at hp; subst hp; exact ⟨h, k⟩
theorem sat_loose {α : Type} {t : Tree α} {R S : α → Prop} (h : t.sat R) (k : ∀ x, R x → S x) : t.sat S := by
  induction t with
  | leaf a => exact k a h
  | need p t ih => exact ⟨h.1, ih h.2⟩
  | br c t e i1 i2 => exact ⟨fun x => i1 (h.1 x), fun x => i2 (h.2 x)⟩
  | fail => exact h
theorem e_wo (V : VM) (g : L_wo.T) : evBody (X_wo V) (evFn (X_wo V) 6) 30 (ofKs L_wo.ks g.1 L_wo.nx) (L_wo.lay.hp g) (L_wo.lay.of g).nx (foutK E_val) = T_wo V (brd g.2.1) g.1.2.1 g.1.2.2.1 g.2.2.1.1 := by kernel_rfl
theorem sp_wo_ok {V : VM} (hV : SpecOk Tryz.prog 16 (sp_val V)) : SpecOk Tryz.prog 30 (sp_wo V) :=
  fspec_ok (X := X_wo V) (ctxS_ok mixed puSe (fns_cons is_worth fns_nil) no_loops (one_spec is_value.plain hV)) 6 E_val_nx fun g R _ hf => by
    rw [e_wo, T_wo_eq]
    exact sat_loose (br_wT hf) fun x hx _ => hx
end V
end Go.Proofs.YtialgmhhkbdegaaGreat
