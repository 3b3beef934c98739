/- Chapter 11: tables: their values. -/
import Derived.Test.YtgchccljmjmibaaGag
namespace Go.Proofs.Ytgchccljmjmibaa
open Go.RowKit
namespace V
namespace Ev
section
variable {G E : Type}
theorem setA_length {β : Type} (l : List β) (i : Nat) (x : β) : (setA l i x).length = l.length := by rw [setA_eq]; simp
def puG (l : Rows) (i v : Int) : Rows := setA l (Int.toNat i) ((gR l i).1, v, (gR l i).2.2.1, (gR l i).2.2.2.1, ())
def puW (l : Rows) (i v : Int) : Rows := setA l (Int.toNat i) ((gR l i).1, (gR l i).2.1, v, (gR l i).2.2.2.1, ())
def puN (l : Rows) (i v : Int) : Rows := setA l (Int.toNat i) ((gR l i).1, (gR l i).2.1, (gR l i).2.2.1, v, ())
theorem puG_len (l : Rows) (i v : Int) : (puG l i v).length = l.length := setA_length _ _ _
theorem puW_len (l : Rows) (i v : Int) : (puW l i v).length = l.length := setA_length _ _ _
theorem puN_len (l : Rows) (i v : Int) : (puN l i v).length = l.length := setA_length _ _ _
/-- the row i has won a game -/
def addW (l : Rows) (i p : Int) : Rows := puN (puW (puG l i (W64 ((gR l i).2.1 + 1))) i (W64 ((gR l i).2.2.1 + 1))) i (W64 ((gR l i).2.2.2.1 + p))
/-- the row j has lost a game -/
def addL (l : Rows) (j p : Int) : Rows := puN (puG l j (W64 ((gR l j).2.1 + 1))) j (W64 ((gR l j).2.2.2.1 - p))
def winL (l : Rows) (i j p : Int) : Rows := addL (addW l i p) j p
theorem addW_len (l : Rows) (i p : Int) : (addW l i p).length = l.length := (puN_len _ _ _).trans ((puW_len _ _ _).trans (puG_len _ _ _))
theorem addL_len (l : Rows) (i p : Int) : (addL l i p).length = l.length := (puN_len _ _ _).trans (puG_len _ _ _)
theorem winL_len (l : Rows) (i j p : Int) : (winL l i j p).length = l.length := (addL_len _ _ _).trans (addW_len _ _ _)
theorem cN_in {l : Rows} {i : Int} {k : Tree (G ⊕ E)} (h : Int.toNat i < l.length) : cN l i k = k := by
  unfold cN
  rw [decide_eq_true h, cond_true]
theorem stG_in {l : Rows} {i v : Int} {K : Rows → Tree (G ⊕ E)} (h : Int.toNat i < l.length) : stG l i v K = K (puG l i v) := cN_in h
theorem stW_in {l : Rows} {i v : Int} {K : Rows → Tree (G ⊕ E)} (h : Int.toNat i < l.length) : stW l i v K = K (puW l i v) := cN_in h
theorem stN_in {l : Rows} {i v : Int} {K : Rows → Tree (G ⊕ E)} (h : Int.toNat i < l.length) : stN l i v K = K (puN l i v) := cN_in h
theorem wlT_run (l : Rows) (i j p : Int) (K : Rows → Tree (G ⊕ E)) (hi : Int.toNat i < l.length) (hj : Int.toNat j < l.length) : wlT l i j p K = K (winL l i j p) := by
  unfold wlT
  rw [cN_in hi, cN_in hi, cN_in hi, stG_in hi]
  rw [stW_in (by rw [puG_len]; exact hi)]
  rw [stN_in (by rw [puW_len, puG_len]; exact hi)]
  have hj' : Int.toNat j < (addW l i p).length := by rw [addW_len]; exact hj
  rw [show puN (puW (puG l i (W64 ((gR l i).2.1 + 1))) i (W64 ((gR l i).2.2.1 + 1))) i (W64 ((gR l i).2.2.2.1 + p)) = addW l i p from rfl]
  rw [cN_in hj', cN_in hj', stG_in hj']
  rw [stN_in (by rw [puG_len]; exact hj')]
  rfl
end
/-- the sheet of a game -/
def tbS (n : Int) (m : cMp) (a : Int) (l : Rows) (b : Int) : Rows := match m (numW n a b) with
  | none => l
  | some s => bif (s.2.2.1 == 0) == decide (a < b) then winL l a b s.2.2.2.1 else winL l b a s.2.2.2.1
theorem tbS_len (n : Int) (m : cMp) (a : Int) (l : Rows) (b : Int) : (tbS n m a l b).length = l.length := by
  unfold tbS
  cases m (numW n a b) with
  | none => rfl
  | some s =>
    simp only
    cases (s.2.2.1 == 0) == decide (a < b)
    · exact winL_len _ _ _ _
    · exact winL_len _ _ _ _
theorem t1_run1 {G E : Type} (hd : Rows → Int → G) (ex : Rows → E) (n : Int) (m : cMp) (l : Rows) (a u b : Int) (hb : 0 ≤ b) (hbu : b < u) (hbl : b < (l.length : Int)) (ha : 0 ≤ a) (hal : a < (l.length : Int)) :
    (sm_t1 hd ex l a u b (m (numW n a b))).run = some (.inl (hd (tbS n m a l b) (W64 (b + 1)))) := by
  unfold sm_t1 tbS
  rw [decide_eq_true hbu, cond_true]
  cases hm : m (numW n a b) with
  | none => rfl
  | some s =>
    simp only [Option.isSome_some, cond_true]
    unfold b1_t1 inN
    simp only [Option.isSome_some, Bool.not_true, cond_false]
    rw [decide_eq_true (show 0 ≤ a ∧ a < (l.length : Int) from ⟨ha, hal⟩), decide_eq_true (show 0 ≤ b ∧ b < (l.length : Int) from ⟨hb, hbl⟩)]
    simp only [cond_true, or0, Option.getD_some]
    rw [wlT_run _ _ _ _ _ (by omega) (by omega), wlT_run _ _ _ _ _ (by omega) (by omega)]
    cases (s.2.2.1 == 0) == decide (a < b) <;> rfl
/-- a row's games -/
def rowF (n : Int) (m : cMp) (a : Nat) (l : Rows) : Rows := (List.range a).foldl (fun l (b : Nat) => tbS n m a l b) l
theorem foldl_len {β : Type} (f : Rows → β → Rows) (h : ∀ l b, (f l b).length = l.length) : ∀ (bs : List β) (l : Rows), (bs.foldl f l).length = l.length
  | [], _ => rfl
  | b :: bs, l => by rw [List.foldl_cons, foldl_len f h bs, h]
theorem rowF_len (n : Int) (m : cMp) (a : Nat) (l : Rows) : (rowF n m a l).length = l.length := foldl_len _ (fun _ _ => tbS_len _ _ _ _ _) _ _
theorem t1_run (n : Int) (m : cMp) (s : Int) (a : Nat) (l : Rows) (ha : a < l.length) (hl : l.length ≤ 1000) :
    iter st_t1 (a + 1) (hd_t1 n m a s a a l 0) = some (ex_t1 n m s a (rowF n m a l)) := by
  have h := iter_foldl (st := st_t1) (List.range a) (fun i l => hd_t1 n m a s a a l i) (fun l (b : Nat) => tbS n m a l b) (ex_t1 n m s a) (fun _ r => r.length = l.length) (fun i r hi hr => ⟨?_, by rw [tbS_len]; exact hr⟩) (fun r hr => ?_) l rfl
  · rw [List.length_range] at h
    exact h
  · rw [List.length_range] at hi
    rw [List.getElem_range]
    refine (t1_run1 (hd_t1 n m a s a a) (ex_t1 n m s a) n m r a a i (by omega) (by omega) (by omega) (by omega) (by omega)).trans ?_
    rw [W64_id (n := (i : Int) + 1) (by omega) (by omega)]
    rfl
  · rw [List.length_range]
    show (sm_t1 (hd_t1 n m a s a a) (ex_t1 n m s a) r a a a (m (numW n a a))).run = _
    unfold sm_t1
    rw [decide_eq_false (show ¬ (a : Int) < (a : Int) by omega)]
    rfl
/-- a player's row -/
def rowS (n : Int) (m : cMp) (l : Rows) (a : Nat) : Rows := rowF n m a (plA l a)
theorem plA_len (l : Rows) (t : Int) : (plA l t).length = l.length := setA_length _ _ _
theorem rowS_len (n : Int) (m : cMp) (l : Rows) (a : Nat) : (rowS n m l a).length = l.length := by unfold rowS; rw [rowF_len, plA_len]
/-- the table -/
def tbV (n : Int) (m : cMp) : Rows := (List.range n.toNat).foldl (rowS n m) (List.replicate n.toNat zR)
theorem tbV_len (n : Int) (m : cMp) : (tbV n m).length = n.toNat := by unfold tbV; rw [foldl_len _ (rowS_len n m)]; simp
theorem t0_run (n : Int) (m : cMp) (h0 : 0 ≤ n) (hn : n ≤ 16) : iter st_t0 (n.toNat + 1) (hd_t0 n m n 0 (List.replicate n.toNat zR)) = some (ex_t0 m (tbV n m)) := by
  have h := iter_foldl (st := st_t0) (List.range n.toNat) (fun i l => hd_t0 n m n i l) (rowS n m) (ex_t0 m) (fun _ r => r.length = n.toNat) (fun i r hi hr => ⟨?_, by rw [rowS_len]; exact hr⟩) (fun r hr => ?_) (List.replicate n.toNat zR) (by simp)
  · rw [List.length_range] at h
    exact h
  · rw [List.length_range] at hi
    rw [List.getElem_range]
    show (sm_t0 n m n i r).run = _
    unfold sm_t0 inO
    rw [decide_eq_true (show (i : Int) < n by omega), decide_eq_true (show 0 ≤ (i : Int) ∧ (i : Int) < (r.length : Int) by omega), decide_eq_true (show Int.toNat (i : Int) < r.length by omega)]
    simp only [cond_true]
    rw [show Int.toNat (i : Int) = i by omega, t1_run n m n i (plA r i) (by rw [plA_len]; omega) (by rw [plA_len]; omega)]
    show some (Sum.inl (hd_t0 n m n (W64 ((i : Int) + 1)) (rowF n m i (plA r i)))) = _
    rw [W64_id (n := (i : Int) + 1) (by omega) (by omega)]
    rfl
  · rw [List.length_range]
    show (sm_t0 n m n ((n.toNat : Nat) : Int) r).run = _
    unfold sm_t0
    rw [decide_eq_false (show ¬ ((n.toNat : Nat) : Int) < n by omega)]
    rfl
theorem T_tb_run (n : Int) (m : cMp) (h0 : 0 ≤ n) (hn : n ≤ 16) : T_tb n (iter st_t0 (((List.replicate n.toNat zR).length : Int).toNat + 1) (hd_t0 n m ((List.replicate n.toNat zR).length : Int) 0 (List.replicate n.toNat zR))) = lf_tb (tbV n m) m := by
  rw [List.length_replicate, show ((n.toNat : Nat) : Int) = n by omega, t0_run n m h0 hn]
  unfold T_tb
  rw [decide_eq_true (show 0 ≤ n ∧ n ≤ n ∧ n ≤ 65536 ∧ ((32 : Nat) : Int) * n ≤ 281474976710656 by omega)]
  rfl
def fin_tb (g : FL_tb.T) : TTb := .br (decide (0 ≤ g.1.1.1 ∧ g.1.1.1 ≤ 16)) (lf_tb (tbV g.1.1.1 g.2.1.1) g.2.1.1) .fail
theorem sp_tab : SpecOk Try.prog 74 (fspec probeB FL_tb FE_tb fin_tb) := by
  refine fspec_ok (X := X_tb) (L := FL_tb) (E := FE_tb) (fin := fin_tb) X_tb_ok 6 (fun _ => Nat.le_refl 1) fun g R hw hf => ?_
  obtain ⟨⟨⟨n, ⟨⟩, ⟨⟩⟩, ⟨⟩⟩, ⟨⟨m, ⟨⟩⟩, ⟨⟩⟩⟩ := g
  have hs : (fin_tb (((n, (), ()), ()), ((m, ()), ()))).sat R := hf
  have hd : decide ((0 : Int) ≤ n ∧ n ≤ 16) = true := by
    cases hd : decide ((0 : Int) ≤ n ∧ n ≤ 16) with
    | true => rfl
    | false => exact (hs.2 hd).elim
  have h1 : (lf_tb (tbV n m) m).sat R := hs.1 hd
  have hn := of_decide_eq_true hd
  rw [T_tb_eq n m, T_tb_run n m hn.1 hn.2]
  exact fun _ => h1
end Ev
end V
end Go.Proofs.Ytgchccljmjmibaa
/-! Chapter 11: places: wins among those with as many wins. -/
namespace Go.Proofs.Ytgchccljmjmibaa
open Go.RowKit
namespace V
namespace Ev
theorem is_am : FnIs Try.prog (75, Try.f75) := ⟨Try.func75, by kernel_rfl, by kernel_rfl⟩
noncomputable def lb_am : Code := (loopsOf (bodyOf Try.f75)).getD 0 .skip
abbrev kRow : List SK := [.d cI, .d cI, .d cI, .d cI]
abbrev tRows : TypeId := 71
abbrev bs_am : List BK := [(0, tRows, [.d (.sl cRow)]), (1, 120, [.d cI, .q 2]), (2, 0, [.m cI cSc])]
def L_am : Lay := { keys := [2, 3, 5, 11, 12, 13], ks := [.p 1 0 0 0, .p 3 0 0 0, .d cI, .d (.sl cRow), .d cI, .d cI], bs := (3, 76, kRow) :: bs_am, n := 44, nx := 1000, marks := [] }
def R_am : Lay := { keys := [5], ks := [.d cI], bs := bs_am, n := 44, nx := 1000, marks := [] }
def E_am : XE → Lay := fun _ => R_am
abbrev cAm := L_am.T ⊕ Left' E_am
abbrev GAm := TCTs [cI, .sl cRow, cI, cI]
abbrev BAm := TCT (.sl cRow) × (TCT cI × cMp)
def bsT (z : BAm) : BTs bs_am := ((z.1, ()), ((z.2.1, (), ()), ((z.2.2, ()), ())))
def hd_am (r : Row) (z : BAm) (l : Rows) (len k c : Int) : L_am.T := (((), (), c, l, len, k, ()), ((r.1, r.2.1, r.2.2.1, r.2.2.2.1, ()), bsT z))
def ex_am (z : BAm) (c : Int) : Left' E_am := ⟨.exit 0, ((c, ()), bsT z)⟩
/-- who has won the game of two players -/
def wonB (n : Int) (m : cMp) (a b : Int) : Bool := (m (numW n a b)).isSome && ((or0 (m (numW n a b))).2.2.1 == 0) == decide (a < b)
/-- a row counts for another one -/
def amB (n : Int) (m : cMp) (r o : Row) : Bool := !(o.1 == r.1) && (o.2.2.1 == r.2.2.1 && wonB n m r.1 o.1)
/-- the wins among those with as many wins -/
def amV (n : Int) (m : cMp) (l : Rows) (r : Row) : Int := l.foldl (fun (c : Int) o => bif amB n m r o then c + 1 else c) 0
section
variable {G E : Type} (hd : Int → Int → G) (ex : Int → E) (n : Int) (m : cMp) (r : Row) (l : Rows) (len k c : Int)
def nx_am (k c : Int) : Tree (G ⊕ E) := .leaf (.inl (hd (W64 (k + 1)) c))
def bd_am (o : Row) : Tree (G ⊕ E) := bif o.1 == r.1 then nx_am hd k c else bif o.2.2.1 != r.2.2.1 then nx_am hd k c else bif (m (numW n r.1 o.1)).isSome then (bif ((or0 (m (numW n r.1 o.1))).2.2.1 == 0) == decide (r.1 < o.1) then nx_am hd k (W64 (c + 1)) else nx_am hd k c) else nx_am hd k c
def sm_am : Tree (G ⊕ E) := bif decide (k < len) then inN l.length k (bd_am hd n m r k c (getA l (Int.toNat k) (dflt cRow))) else .leaf (.inr (ex c))
end
def row5 (z : SKTs kRow) : Row := (z.1, z.2.1, z.2.2.1, z.2.2.2.1, ())
def st_am (g : L_am.T) : Tree cAm := sm_am (hd_am (row5 g.2.1) (g.2.2.1.1, g.2.2.2.1.1, g.2.2.2.2.1.1) g.1.2.2.2.1 g.1.2.2.2.2.1) (ex_am (g.2.2.1.1, g.2.2.2.1.1, g.2.2.2.2.1.1)) g.2.2.2.1.1 g.2.2.2.2.1.1 (row5 g.2.1) g.1.2.2.2.1 g.1.2.2.2.2.1 g.1.2.2.2.2.2.1 g.1.2.2.1
def fu_am (g : L_am.T) : Nat := (g.1.2.2.2.1 : Rows).length + 1
theorem e_am (g : L_am.T) : evC Try.prog (evFn XTb 6) XTb.pures 75 XTb.u (fun _ => none) lb_am (L_am.of g) (stepOut L_am E_am) = st_am g := by kernel_rfl
theorem l_am : LoopOk Try.prog 75 lb_am (loopSum L_am E_am (finX [.exit 0] st_am fu_am)) := loopOk_x0 XTb_ok 6 _ L_am E_am (fun _ => Nat.le_refl _) [.exit 0] _ fu_am e_am
theorem bd_am_run {G E : Type} (hd : Int → Int → G) (n : Int) (m : cMp) (r o : Row) (k c : Int) (hc : 0 ≤ c) (h2 : c ≤ 9000000000000000000) : (bd_am (E := E) hd n m r k c o).run = some (.inl (hd (W64 (k + 1)) (bif amB n m r o then c + 1 else c))) := by
  unfold bd_am amB wonB nx_am
  rw [W64_id (n := c + 1) (by omega) (by omega)]
  cases o.1 == r.1 with
  | true => rfl
  | false =>
    simp only [bne, cond_false, Bool.not_false, Bool.true_and]
    cases o.2.2.1 == r.2.2.1 with
    | false => rfl
    | true =>
      simp only [Bool.not_true, cond_false, Bool.true_and]
      cases (m (numW n r.1 o.1)).isSome with
      | false => rfl
      | true =>
        simp only [cond_true, Bool.true_and]
        cases ((or0 (m (numW n r.1 o.1))).2.2.1 == 0) == decide (r.1 < o.1) <;> rfl
theorem am_run (z : BAm) (r : Row) (l : Rows) (hl : (l.length : Int) ≤ 100) : iter st_am (l.length + 1) (hd_am r z l l.length 0 0) = some (ex_am z (amV z.2.1 z.2.2 l r)) := by
  refine iter_foldl (st := st_am) l (fun i c => hd_am r z l l.length i c) (fun (c : Int) o => bif amB z.2.1 z.2.2 r o then c + 1 else c) (ex_am z) (fun i (c : Int) => 0 ≤ c ∧ c ≤ i) (fun i c hi hc => ⟨?_, ?_⟩) (fun c _ => ?_) (0 : Int) ⟨by omega, by omega⟩
  · show (sm_am (hd_am r z l l.length) (ex_am z) z.2.1 z.2.2 r l l.length i c).run = _
    unfold sm_am inN
    rw [decide_eq_true (show (i : Int) < (l.length : Int) by omega), decide_eq_true (show 0 ≤ (i : Int) ∧ (i : Int) < (l.length : Int) by omega), show Int.toNat (i : Int) = i by omega, getA_lt hi]
    simp only [cond_true]
    rw [bd_am_run _ _ _ _ _ _ _ hc.1 (by omega), W64_id (n := (i : Int) + 1) (by omega) (by omega)]
    rfl
  · cases amB z.2.1 z.2.2 r l[i] with
    | true => exact ⟨by show (0 : Int) ≤ c + 1; omega, by show c + 1 ≤ ((i + 1 : Nat) : Int); omega⟩
    | false => exact ⟨hc.1, by show c ≤ ((i + 1 : Nat) : Int); omega⟩
  · show (sm_am (hd_am r z l l.length) (ex_am z) z.2.1 z.2.2 r l l.length l.length c).run = _
    unfold sm_am
    rw [decide_eq_false (show ¬ (l.length : Int) < (l.length : Int) by omega)]
    rfl
/-! a contract -/
def FL_am : FLay := { ks := [.d cRow, .p 0 0 0 0, .p 1 0 0 0], bs := bs_am, nx := 3 }
def FE_am : Bool → FLay := fun _ => { ks := [.d cI], bs := bs_am, nx := 3 }
def probeA (hp : Heap) (args : List AV) : Option (List Nat) := match args with
  | [_, .ptr i _ _ _, .ptr j _ _ _] => match hp j with
    | some (.blk b) => match b.cs with
      | [_, .mp k] => some [i, j, k]
      | _ => none
    | _ => none
  | _ => none
noncomputable def X_am : Ctx := ctxL Try.prog [] [(75, Try.f75)] [((75, 3), loopSum L_am E_am (finX [.exit 0] st_am fu_am))]
theorem X_am_ok : CtxOk X_am := ctxL_ok mixed puOk_nil (fns_cons is_am fns_nil) (loops_cons (loops_of (ds := [lb_am]) (by kernel_rfl) ⟨one_key (k := 3) (by kernel_rfl) rfl l_am, trivial⟩) loops_nil)
abbrev TAm := Tree (LeftF FE_am)
def lf_am (z : BTs bs_am) (c : Int) : TAm := .leaf ⟨true, ((c, ()), z)⟩
def T_am (y : Option (Left' E_am)) : TAm := bif isE (.exit 0) y then lf_am (valE (.exit 0) y).2 (valE (.exit 0) y).1.1 else .fail
theorem T_am_eq (r : Row) (z : BAm) : evBody X_am (evFn X_am 6) 75 (ofKs FL_am.ks (r, (), (), ()) FL_am.nx) (FL_am.lay.hp ((r, (), (), ()), bsT z)) (FL_am.lay.of ((r, (), (), ()), bsT z)).nx (foutK FE_am) = T_am (iter st_am (z.1.length + 1) (hd_am r z z.1 z.1.length 0 0)) := by kernel_rfl
def fin_am (g : FL_am.T) : TAm := .br (decide (((g.2.1.1 : Rows).length : Int) ≤ 100)) (lf_am g.2 (amV g.2.2.1.1 g.2.2.2.1.1 g.2.1.1 g.1.1)) .fail
theorem sp_am : SpecOk Try.prog 75 (fspec probeA FL_am FE_am fin_am) := by
  refine fspec_ok (X := X_am) (L := FL_am) (E := FE_am) (fin := fin_am) X_am_ok 6 (fun _ => Nat.le_refl 3) fun g R hw hf => ?_
  obtain ⟨⟨r, ⟨⟩, ⟨⟩, ⟨⟩⟩, ⟨⟨rows, ⟨⟩⟩, ⟨n, ⟨⟩, ⟨⟩⟩, ⟨m, ⟨⟩⟩, ⟨⟩⟩⟩ := g
  have hs : (fin_am ((r, (), (), ()), bsT (rows, n, m))).sat R := hf
  have hd : decide (((rows : Rows).length : Int) ≤ 100) = true := by
    cases hd : decide (((rows : Rows).length : Int) ≤ 100) with
    | true => rfl
    | false => exact (hs.2 hd).elim
  have h1 : (lf_am (bsT (rows, n, m)) (amV n m rows r)).sat R := hs.1 hd
  refine (T_am_eq r (rows, n, m)).symm ▸ ?_
  rw [show iter st_am (List.length rows + 1) (hd_am r (rows, n, m) rows (List.length rows) 0 0) = some (ex_am (rows, n, m) (amV n m rows r)) from am_run (rows, n, m) r rows (of_decide_eq_true hd)]
  exact fun _ => h1
end Ev
end V
end Go.Proofs.Ytgchccljmjmibaa
