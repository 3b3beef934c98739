/- Chapter 11: places: rows in order. -/
import Derived.Test.YtgchccljmjmibaaGcg
import Derived.Sort.AssemblyPlain
namespace Go.Proofs.Ytgchccljmjmibaa
open Go.RowKit
namespace V
namespace Ev
theorem is_pl2 : FnIs Try.prog (77, Try.f77) := ⟨Try.func77, by kernel_rfl, by kernel_rfl⟩
theorem is_pl3 : FnIs Try.prog (78, Try.f78) := ⟨Try.func78, by kernel_rfl, by kernel_rfl⟩
theorem is_pl4 : FnIs Try.prog (79, Try.f79) := ⟨Try.func79, by kernel_rfl, by kernel_rfl⟩
theorem is_pl5 : FnIs Try.prog (82, Try.f82) := ⟨Try.func82, by kernel_rfl, by kernel_rfl⟩
theorem is_befR : FnIs Try.prog (83, Try.f83) := ⟨Try.func83, by kernel_rfl, by kernel_rfl⟩
abbrev tRules : TypeId := 129
abbrev bs_cp : List BK := [(0, tRules, [.sli 1 0 1 4 4]), (1, 128, [.f 77 [] [], .f 75 [] [.p 2 0 0 0, .p 3 0 0 0], .f 78 [] [], .f 79 [] []]), (2, tRows, [.d (.sl cRow)]), (3, 120, [.d cI, .q 4]), (4, 0, [.m cI cSc])]
def bsC (z : BAm) : BTs bs_cp := (((), ()), ((((), ()), ((), ((), (), ())), ((), ()), ((), ()), ()), ((z.1, ()), ((z.2.1, (), ()), ((z.2.2, ()), ())))))
def FL_cp : FLay := { ks := [.d cRow, .d cRow, .p 0 0 0 0], bs := bs_cp, nx := 5 }
def FE_cp : Bool → FLay := fun _ => { ks := [.d cI], bs := bs_cp, nx := 5 }
def probeC (hp : Heap) (args : List AV) : Option (List Nat) := match args with
  | [_, _, .ptr i _ _ _] => match hp i with
    | some (.blk b) => match b.cs with
      | [.sl j _ _ _ _] => match hp j with
        | some (.blk d) => match d.cs with
          | [_, .fn _ _ [.ptr k _ _ _, .ptr l _ _ _], _, _] => match hp l with
            | some (.blk e) => match e.cs with
              | [_, .mp o] => some [i, j, k, l, o]
              | _ => none
            | _ => none
          | _ => none
        | _ => none
      | _ => none
    | _ => none
  | _ => none
noncomputable def X_cp : Ctx := ctxS Try.prog [] [(82, Try.f82), (83, Try.f83), (77, Try.f77), (78, Try.f78), (79, Try.f79)] [] [(75, fspec probeA FL_am FE_am fin_am)]
theorem X_cp_ok : CtxOk X_cp := ctxS_ok mixed puOk_nil (fns_cons is_pl5 (fns_cons is_befR (fns_cons is_pl2 (fns_cons is_pl3 (fns_cons is_pl4 fns_nil))))) (fun _ _ _ _ _ h => by cases h) (fun p hp => by
  simp only [List.mem_singleton] at hp
  subst hp
  exact ⟨is_am.plain, sp_am⟩)
/-- the order of rows: which one comes first -/
def befV (n : Int) (m : cMp) (l : Rows) (a b : Row) : Bool := bif a.2.2.1 != b.2.2.1 then decide (a.2.2.1 > b.2.2.1) else bif amV n m l a != amV n m l b then decide (amV n m l a > amV n m l b) else bif a.2.2.2.1 != b.2.2.2.1 then decide (a.2.2.2.1 > b.2.2.2.1) else bif W64 (0 - a.1) != W64 (0 - b.1) then decide (W64 (0 - a.1) > W64 (0 - b.1)) else false
def cmpV (n : Int) (m : cMp) (l : Rows) (a b : Row) : Int := bif befV n m l a b then -1 else bif befV n m l b a then 1 else 0
abbrev TCp := Tree (LeftF FE_cp)
def lf_cp (z : BTs bs_cp) (c : Int) : TCp := .leaf ⟨true, ((c, ()), z)⟩
def ln_cp (l : Rows) (k : TCp) : TCp := bif decide ((l.length : Int) ≤ 100) then k else .fail
def befT (n : Int) (m : cMp) (l : Rows) (a b : Row) (T F : TCp) : TCp := bif a.2.2.1 != b.2.2.1 then (bif decide (a.2.2.1 > b.2.2.1) then T else F) else ln_cp l (ln_cp l (bif amV n m l a != amV n m l b then (bif decide (amV n m l a > amV n m l b) then T else F) else bif a.2.2.2.1 != b.2.2.2.1 then (bif decide (a.2.2.2.1 > b.2.2.2.1) then T else F) else bif W64 (0 - a.1) != W64 (0 - b.1) then (bif decide (W64 (0 - a.1) > W64 (0 - b.1)) then T else F) else F))
def T_cp (a b : Row) (z : BAm) : TCp := befT z.2.1 z.2.2 z.1 a b (lf_cp (bsC z) (-1)) (befT z.2.1 z.2.2 z.1 b a (lf_cp (bsC z) 1) (lf_cp (bsC z) 0))
theorem T_cp_eq (a b : Row) (z : BAm) : evBody X_cp (evFn X_cp 6) 82 (ofKs FL_cp.ks (a, b, (), ()) FL_cp.nx) (FL_cp.lay.hp ((a, b, (), ()), bsC z)) (FL_cp.lay.of ((a, b, (), ()), bsC z)).nx (foutK FE_cp) = T_cp a b z := by kernel_rfl
theorem befT_run (n : Int) (m : cMp) (l : Rows) (a b : Row) (T F : TCp) (hl : (l.length : Int) ≤ 100) : befT n m l a b T F = bif befV n m l a b then T else F := by
  unfold befT befV ln_cp
  rw [decide_eq_true hl]
  cases a.2.2.1 != b.2.2.1 with
  | true => rfl
  | false =>
    simp only [cond_false, cond_true]
    cases amV n m l a != amV n m l b with
    | true => rfl
    | false =>
      simp only [cond_false]
      cases a.2.2.2.1 != b.2.2.2.1 with
      | true => rfl
      | false =>
        simp only [cond_false]
        cases W64 (0 - a.1) != W64 (0 - b.1) <;> rfl
theorem T_cp_run (a b : Row) (z : BAm) (hl : (z.1.length : Int) ≤ 100) : T_cp a b z = lf_cp (bsC z) (cmpV z.2.1 z.2.2 z.1 a b) := by
  unfold T_cp cmpV
  rw [befT_run _ _ _ _ _ _ _ hl, befT_run _ _ _ _ _ _ _ hl]
  cases befV z.2.1 z.2.2 z.1 a b with
  | true => rfl
  | false => cases befV z.2.1 z.2.2 z.1 b a <;> rfl
def zC (g : BTs bs_cp) : BAm := (g.2.2.1.1, g.2.2.2.1.1, g.2.2.2.2.1.1)
def fin_cp (g : FL_cp.T) : TCp := .br (decide (((zC g.2).1.length : Int) ≤ 100)) (lf_cp g.2 (cmpV (zC g.2).2.1 (zC g.2).2.2 (zC g.2).1 g.1.1 g.1.2.1)) .fail
theorem sp_cp : SpecOk Try.prog 82 (fspec probeC FL_cp FE_cp fin_cp) := by
  refine fspec_ok (X := X_cp) (L := FL_cp) (E := FE_cp) (fin := fin_cp) X_cp_ok 6 (fun _ => Nat.le_refl 5) fun g R hw hf => ?_
  obtain ⟨⟨a, b, u1, u2⟩, ⟨v0, v1, ⟨rows, u3⟩, ⟨n, u4, u5⟩, ⟨m, u6⟩, u7⟩⟩ := g
  have hs : (fin_cp ((a, b, (), ()), bsC (rows, n, m))).sat R := hf
  have hd : decide (((rows : Rows).length : Int) ≤ 100) = true := by
    cases hd : decide (((rows : Rows).length : Int) ≤ 100) with
    | true => rfl
    | false => exact (hs.2 hd).elim
  have h1 : (lf_cp (bsC (rows, n, m)) (cmpV n m rows a b)).sat R := hs.1 hd
  refine (T_cp_eq a b (rows, n, m)).symm ▸ ?_
  rw [T_cp_run a b (rows, n, m) (of_decide_eq_true hd)]
  exact fun _ => h1
end Ev
end V
end Go.Proofs.Ytgchccljmjmibaa
/-! Chapter 11: places: insertion sort. -/
namespace Go.Proofs.Ytgchccljmjmibaa
open Go.RowKit
namespace V
namespace Ev
theorem is_isort : FnIs Try.prog (107, Try.f107) := ⟨Try.func107, by kernel_rfl, by kernel_rfl⟩
abbrev bs_so : List BK := [(6, tRules, [.sli 5 0 1 4 4]), (5, 128, [.f 77 [] [], .f 75 [] [.p 4 0 0 0, .p 3 0 0 0], .f 78 [] [], .f 79 [] []]), (4, tRows, [.d (.sl cRow)]), (3, 120, [.d cI, .q 2]), (2, 0, [.m cI cSc])]
def bsO (z : BAm) : BTs bs_so := (((), ()), ((((), ()), ((), ((), (), ())), ((), ()), ((), ()), ()), ((z.1, ()), ((z.2.1, (), ()), ((z.2.2, ()), ())))))
def zO (g : BTs bs_so) : BAm := (g.2.2.1.1, g.2.2.2.1.1, g.2.2.2.2.1.1)
abbrev kDat : SK := .w 8 76 cRow
abbrev kCmp : SK := .f 82 [] [.p 6 0 0 0]
noncomputable def XSo : Ctx := ctxS Try.prog [] [] [] [(82, fspec probeC FL_cp FE_cp fin_cp)]
theorem XSo_ok : CtxOk XSo := ctxS_ok mixed puOk_nil fns_nil (fun _ _ _ _ _ h => by cases h) (fun p hp => by
  simp only [List.mem_singleton] at hp
  subst hp
  exact ⟨is_pl5.plain, sp_cp⟩)
noncomputable def lb_is (k : Nat) : Code := (loopsOf (bodyOf Try.f107)).getD k .skip
def L_i1 : Lay := { keys := [0, 1, 2, 3, 8, 9], ks := [kDat, .d cI, .d cI, kCmp, .d cI, .d cI], bs := bs_so, n := 53, nx := 11000, marks := [] }
def R_i1 : Lay := { keys := [0, 1, 2, 3, 8], ks := [kDat, .d cI, .d cI, kCmp, .d cI], bs := bs_so, n := 53, nx := 11000, marks := [] }
def E_i1 : XE → Lay := fun _ => R_i1
def L_i0 : Lay := { keys := [0, 1, 2, 3, 8], ks := [kDat, .d cI, .d cI, kCmp, .d cI], bs := bs_so, n := 53, nx := 10000, marks := [] }
def R_i0 : Lay := { keys := [0], ks := [kDat], bs := bs_so, n := 53, nx := 10000, marks := [] }
def E_i0 : XE → Lay := fun _ => R_i0
def hd_i1 (z : BAm) (a b i : Int) (d : Rows) (j : Int) : L_i1.T := ((d, a, b, ((), ((), ())), i, j, ()), bsO z)
def ex_i1 (z : BAm) (a b i : Int) (d : Rows) : Left' E_i1 := ⟨.exit 2, ((d, a, b, ((), ((), ())), i, ()), bsO z)⟩
section
variable {β : Type}
def lnO (l : Rows) (k : Tree β) : Tree β := bif decide ((l.length : Int) ≤ 100) then k else .fail
/-- two rows are exchanged -/
def swT (d : Rows) (i j : Int) (K : Rows → Tree β) : Tree β := inO d.length j (inO d.length i (inO d.length i (inO (setA d (Int.toNat i) (gR d j)).length j (K (setA (setA d (Int.toNat i) (gR d j)) (Int.toNat j) (gR d i))))))
/-- two rows are compared -/
def cpT (z : BAm) (d : Rows) (i j : Int) (K : Bool → Tree β) : Tree β := inO d.length i (inO d.length j (lnO z.1 (K (decide (cmpV z.2.1 z.2.2 z.1 (gR d i) (gR d j) < 0)))))
end
abbrev cI1 := L_i1.T ⊕ Left' E_i1
def sm_i1 (z : BAm) (a b i : Int) (d : Rows) (j : Int) : Tree cI1 := bif decide (j > a) then cpT z d j (W64 (j - 1)) fun c => bif c then swT d j (W64 (j - 1)) fun d => .leaf (.inl (hd_i1 z a b i d (W64 (j - 1)))) else .leaf (.inr (ex_i1 z a b i d)) else .leaf (.inr (ex_i1 z a b i d))
def st_i1 (g : L_i1.T) : Tree cI1 := sm_i1 (zO g.2) g.1.2.1 g.1.2.2.1 g.1.2.2.2.2.1 g.1.1 g.1.2.2.2.2.2.1
def fu_i1 (g : L_i1.T) : Nat := (g.1.2.2.2.2.2.1 : Int).toNat + 1
theorem e_i1 (g : L_i1.T) : evC Try.prog (evFn XSo 6) XSo.pures 107 XSo.u (fun _ => none) (lb_is 1) (L_i1.of g) (stepOut L_i1 E_i1) = st_i1 g := by kernel_rfl
theorem l_i1 : LoopOk Try.prog 107 (lb_is 1) (loopSum L_i1 E_i1 (finX [.exit 2] st_i1 fu_i1)) := loopOk_x0 XSo_ok 6 _ L_i1 E_i1 (fun _ => Nat.le_refl _) [.exit 2] _ fu_i1 e_i1
noncomputable def Lt_i0 : LoopT := assoc2 [((107, 4), loopSum L_i1 E_i1 (finX [.exit 2] st_i1 fu_i1))] 107
abbrev cI0 := L_i0.T ⊕ Left' E_i0
def hd_i0 (z : BAm) (a b : Int) (d : Rows) (i : Int) : L_i0.T := ((d, a, b, ((), ((), ())), i, ()), bsO z)
def ex_i0 (z : BAm) (d : Rows) : Left' E_i0 := ⟨.exit 0, ((d, ()), bsO z)⟩
def af_i0 (y : Option (Left' E_i1)) : Tree cI0 := bif isE (.exit 2) y then .leaf (.inl (hd_i0 (zO (valE (.exit 2) y).2) (valE (.exit 2) y).1.2.1 (valE (.exit 2) y).1.2.2.1 (valE (.exit 2) y).1.1 (W64 ((valE (.exit 2) y).1.2.2.2.2.1 + 1)))) else .fail
def sm_i0 (z : BAm) (a b : Int) (d : Rows) (i : Int) : Tree cI0 := bif decide (i < b) then af_i0 (iter st_i1 (i.toNat + 1) (hd_i1 z a b i d i)) else .leaf (.inr (ex_i0 z d))
def st_i0 (g : L_i0.T) : Tree cI0 := sm_i0 (zO g.2) g.1.2.1 g.1.2.2.1 g.1.1 g.1.2.2.2.2.1
def fu_i0 (g : L_i0.T) : Nat := (g.1.2.2.1 : Int).toNat + 1
theorem e_i0 (g : L_i0.T) : evC Try.prog (evFn XSo 6) XSo.pures 107 XSo.u Lt_i0 (lb_is 0) (L_i0.of g) (stepOut L_i0 E_i0) = st_i0 g := by kernel_rfl
theorem loops_i0 : loopsOf (lb_is 0) = [lb_is 1] := by kernel_rfl
theorem key_i1 : keyOf (lb_is 1) = 4 := by kernel_rfl
theorem l_i0 : LoopOk Try.prog 107 (lb_is 0) (loopSum L_i0 E_i0 (finX [.exit 0] st_i0 fu_i0)) := loopOk_x XSo_ok 6 _ Lt_i0 (fun d hd f hf => by
  rw [loops_i0, List.mem_singleton] at hd
  subst hd
  rw [key_i1] at hf
  cases hf
  exact l_i1) L_i0 E_i0 (fun _ => Nat.le_refl _) [.exit 0] _ fu_i0 e_i0
end Ev
end V
end Go.Proofs.Ytgchccljmjmibaa
