/- Chapter 11: places: wins among those with as many wins. -/
import Derived.Test.YtgchccljmjmibaaGc
namespace Go.Proofs.Ytgchccljmjmibaa
open Go.RowKit
namespace V
namespace Ev
theorem is_am : FnIs Try.prog (75, Try.f75) := ⟨Try.func75, by kernel_rfl, by kernel_rfl⟩
noncomputable def lb_am : Code := (loopsOf (bodyOf Try.f75)).getD 0 .skip
abbrev kRow : List SK := [.d cI, .d cI, .d cI, .d cI]
abbrev tRows : TypeId := 71
abbrev bs_am : List BK := [(0, tRows, [.d (.sl cRow)]), (1, 120, [.d cI, .q 2]), (2, 0, [.m cI cSc])]
def L_am : Lay := { keys := [2, 3, 5, 11, 12, 13], ks := [.p 1 0 0 0, .p 3 0 0 0, .d cI, .d (.sl cRow), .d cI, .d cI], bs := (3, 76, kRow) :: bs_am, n := 44, nx := 1000, marks := [] }
def R_am : Lay := { keys := [5], ks := [.d cI], bs := bs_am, n := 44, nx := 1000, marks := [] }
def E_am : XE → Lay := fun _ => R_am
abbrev cAm := L_am.T ⊕ Left' E_am
abbrev GAm := TCTs [cI, .sl cRow, cI, cI]
abbrev BAm := TCT (.sl cRow) × (TCT cI × cMp)
def bsT (z : BAm) : BTs bs_am := ((z.1, ()), ((z.2.1, (), ()), ((z.2.2, ()), ())))
def hd_am (r : Row) (z : BAm) (l : Rows) (len k c : Int) : L_am.T := (((), (), c, l, len, k, ()), ((r.1, r.2.1, r.2.2.1, r.2.2.2.1, ()), bsT z))
def ex_am (z : BAm) (c : Int) : Left' E_am := ⟨.exit 0, ((c, ()), bsT z)⟩
/-- who has won the game of two players -/
def wonB (n : Int) (m : cMp) (a b : Int) : Bool := (m (numW n a b)).isSome && ((or0 (m (numW n a b))).2.2.1 == 0) == decide (a < b)
/-- a row counts for another one -/
def amB (n : Int) (m : cMp) (r o : Row) : Bool := !(o.1 == r.1) && (o.2.2.1 == r.2.2.1 && wonB n m r.1 o.1)
/-- the wins among those with as many wins -/
def amV (n : Int) (m : cMp) (l : Rows) (r : Row) : Int := l.foldl (fun (c : Int) o => bif amB n m r o then c + 1 else c) 0
section
variable {G E : Type} (hd : Int → Int → G) (ex : Int → E) (n : Int) (m : cMp) (r : Row) (l : Rows) (len k c : Int)
def nx_am (k c : Int) : Tree (G ⊕ E) := .leaf (.inl (hd (W64 (k + 1)) c))
def bd_am (o : Row) : Tree (G ⊕ E) := bif o.1 == r.1 then nx_am hd k c else bif o.2.2.1 != r.2.2.1 then nx_am hd k c else bif (m (numW n r.1 o.1)).isSome then (bif ((or0 (m (numW n r.1 o.1))).2.2.1 == 0) == decide (r.1 < o.1) then nx_am hd k (W64 (c + 1)) else nx_am hd k c) else nx_am hd k c
def sm_am : Tree (G ⊕ E) := bif decide (k < len) then inN l.length k (bd_am hd n m r k c (getA l (Int.toNat k) (dflt cRow))) else .leaf (.inr (ex c))
end
def row5 (z : SKTs kRow) : Row := (z.1, z.2.1, z.2.2.1, z.2.2.2.1, ())
def st_am (g : L_am.T) : Tree cAm := sm_am (hd_am (row5 g.2.1) (g.2.2.1.1, g.2.2.2.1.1, g.2.2.2.2.1.1) g.1.2.2.2.1 g.1.2.2.2.2.1) (ex_am (g.2.2.1.1, g.2.2.2.1.1, g.2.2.2.2.1.1)) g.2.2.2.1.1 g.2.2.2.2.1.1 (row5 g.2.1) g.1.2.2.2.1 g.1.2.2.2.2.1 g.1.2.2.2.2.2.1 g.1.2.2.1
def fu_am (g : L_am.T) : Nat := (g.1.2.2.2.1 : Rows).length + 1
theorem e_am (g : L_am.T) : evC Try.prog (evFn XTb 6) XTb.pures 75 XTb.u (fun _ => none) lb_am (L_am.of g) (stepOut L_am E_am) = st_am g := by kernel_rfl
theorem l_am : LoopOk Try.prog 75 lb_am (loopSum L_am E_am (finX [.exit 0] st_am fu_am)) := loopOk_x0 XTb_ok 6 _ L_am E_am (fun _ => Nat.le_refl _) [.exit 0] _ fu_am e_am
theorem bd_am_run {G E : Type} (hd : Int → Int → G) (n : Int) (m : cMp) (r o : Row) (k c : Int) (hc : 0 ≤ c) (h2 : c ≤ 9000000000000000000) : (bd_am (E := E) hd n m r k c o).run = some (.inl (hd (W64 (k + 1)) (bif amB n m r o then c + 1 else c))) := by
  unfold bd_am amB wonB nx_am
  rw [W64_id (n := c + 1) (by omega) (by omega)]
  cases o.1 == r.1 with
  | true => rfl
  | false =>
    simp only [bne, cond_false, Bool.not_false, Bool.true_and]
    cases o.2.2.1 == r.2.2.1 with
    | false => rfl
    | true =>
      simp only [Bool.not_true, cond_false, Bool.true_and]
      cases (m (numW n r.1 o.1)).isSome with
      | false => rfl
      | true =>
        simp only [cond_true, Bool.true_and]
        cases ((or0 (m (numW n r.1 o.1))).2.2.1 == 0) == decide (r.1 < o.1) <;> rfl
theorem am_run (z : BAm) (r : Row) (l : Rows) (hl : (l.length : Int) ≤ 100) : iter st_am (l.length + 1) (hd_am r z l l.length 0 0) = some (ex_am z (amV z.2.1 z.2.2 l r)) := by
  refine iter_foldl (st := st_am) l (fun i c => hd_am r z l l.length i c) (fun (c : Int) o => bif amB z.2.1 z.2.2 r o then c + 1 else c) (ex_am z) (fun i (c : Int) => 0 ≤ c ∧ c ≤ i) (fun i c hi hc => ⟨?_, ?_⟩) (fun c _ => ?_) (0 : Int) ⟨by omega, by omega⟩
  · show (sm_am (hd_am r z l l.length) (ex_am z) z.2.1 z.2.2 r l l.length i c).run = _
    unfold sm_am inN
    rw [decide_eq_true (show (i : Int) < (l.length : Int) by omega), decide_eq_true (show 0 ≤ (i : Int) ∧ (i : Int) < (l.length : Int) by omega), show Int.toNat (i : Int) = i by omega, getA_lt hi]
    simp only [cond_true]
    rw [bd_am_run _ _ _ _ _ _ _ hc.1 (by omega), W64_id (n := (i : Int) + 1) (by omega) (by omega)]
    rfl
  · cases amB z.2.1 z.2.2 r l[i] with
    | true => exact ⟨by show (0 : Int) ≤ c + 1; omega, by show c + 1 ≤ ((i + 1 : Nat) : Int); omega⟩
    | false => exact ⟨hc.1, by show c ≤ ((i + 1 : Nat) : Int); omega⟩
  · show (sm_am (hd_am r z l l.length) (ex_am z) z.2.1 z.2.2 r l l.length l.length c).run = _
    unfold sm_am
    rw [decide_eq_false (show ¬ (l.length : Int) < (l.length : Int) by omega)]
    rfl
/-! a contract -/
def FL_am : FLay := { ks := [.d cRow, .p 0 0 0 0, .p 1 0 0 0], bs := bs_am, nx := 3 }
def FE_am : Bool → FLay := fun _ => { ks := [.d cI], bs := bs_am, nx := 3 }
def probeA (hp : Heap) (args : List AV) : Option (List Nat) := match args with
  | [_, .ptr i _ _ _, .ptr j _ _ _] => match hp j with
    | some (.blk b) => match b.cs with
      | [_, .mp k] => some [i, j, k]
      | _ => none
    | _ => none
  | _ => none
noncomputable def X_am : Ctx := ctxL Try.prog [] [(75, Try.f75)] [((75, 3), loopSum L_am E_am (finX [.exit 0] st_am fu_am))]
theorem X_am_ok : CtxOk X_am := ctxL_ok mixed puOk_nil (fns_cons is_am fns_nil) (loops_cons (loops_of (ds := [lb_am]) (by kernel_rfl) ⟨one_key (k := 3) (by kernel_rfl) rfl l_am, trivial⟩) loops_nil)
abbrev TAm := Tree (LeftF FE_am)
def lf_am (z : BTs bs_am) (c : Int) : TAm := .leaf ⟨true, ((c, ()), z)⟩
def T_am (y : Option (Left' E_am)) : TAm := bif isE (.exit 0) y then lf_am (valE (.exit 0) y).2 (valE (.exit 0) y).1.1 else .fail
theorem T_am_eq (r : Row) (z : BAm) : evBody X_am (evFn X_am 6) 75 (ofKs FL_am.ks (r, (), (), ()) FL_am.nx) (FL_am.lay.hp ((r, (), (), ()), bsT z)) (FL_am.lay.of ((r, (), (), ()), bsT z)).nx (foutK FE_am) = T_am (iter st_am (z.1.length + 1) (hd_am r z z.1 z.1.length 0 0)) := by kernel_rfl
def fin_am (g : FL_am.T) : TAm := .br (decide (((g.2.1.1 : Rows).length : Int) ≤ 100)) (lf_am g.2 (amV g.2.2.1.1 g.2.2.2.1.1 g.2.1.1 g.1.1)) .fail
theorem sp_am : SpecOk Try.prog 75 (fspec probeA FL_am FE_am fin_am) := by
  refine fspec_ok (X := X_am) (L := FL_am) (E := FE_am) (fin := fin_am) X_am_ok 6 (fun _ => Nat.le_refl 3) fun g R hw hf => ?_
  obtain ⟨⟨r, ⟨⟩, ⟨⟩, ⟨⟩⟩, ⟨⟨rows, ⟨⟩⟩, ⟨n, ⟨⟩, ⟨⟩⟩, ⟨m, ⟨⟩⟩, ⟨⟩⟩⟩ := g
  have hs : (fin_am ((r, (), (), ()), bsT (rows, n, m))).sat R := hf
  have hd : decide (((rows : Rows).length : Int) ≤ 100) = true := by
    cases hd : decide (((rows : Rows).length : Int) ≤ 100) with
    | true => rfl
    | false => exact (hs.2 hd).elim
  have h1 : (lf_am (bsT (rows, n, m)) (amV n m rows r)).sat R := hs.1 hd
  refine (T_am_eq r (rows, n, m)).symm ▸ ?_
  rw [show iter st_am (List.length rows + 1) (hd_am r (rows, n, m) rows (List.length rows) 0 0) = some (ex_am (rows, n, m) (amV n m rows r)) from am_run (rows, n, m) r rows (of_decide_eq_true hd)]
  exact fun _ => h1
end Ev
end V
end Go.Proofs.Ytgchccljmjmibaa
