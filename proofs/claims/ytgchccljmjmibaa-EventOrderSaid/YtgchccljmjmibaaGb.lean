/- Chapter 11: tables: loops. -/
import Derived.Test.YtgchccljmjmibaaGa
import Derived.Test.YtgchccljmjmibaaZy
namespace Go.Proofs.Ytgchccljmjmibaa
open Go.RowKit
namespace V
/-- what is known of a loop, behind which the lists in some slots are data -/
def frX (ts : List Nat) (f : St → Tree (XE × St)) (s : St) : Tree (XE × St) := (f s).map fun y => (y.1, fzT ts y.2)
theorem loopOk_frX {P : Program} {fn : FuncId} {c : Code} {f : St → Tree (XE × St)} (ts : List Nat) (h : LoopOk P fn c f) : LoopOk P fn c (frX ts f) := fun w0 σ s a w R hS hf =>
  wpX_mono (h w0 σ s a w (fun y => R (y.1, fzT ts y.2)) hS (by unfold frX at hf; simpa only [sat_map] using hf)) fun e _ _ ⟨_, x, s', h1, h2, h3, h4⟩ => ⟨_, x, fzT ts s', h1.trans (fz_ext h2.h _), h2.fz _, (by
    cases x <;> cases e <;> simp only [ExR] at h3 ⊢ <;> first | exact h3 | exact h3.elim | (obtain ⟨v, k1, k2⟩ := h3; exact ⟨v, k1.mono (fz_ext h2.h _), k2⟩)), h4⟩
namespace Ev
theorem is_eTable : FnIs Try.prog (38, Try.f38) := ⟨Try.func38, by kernel_rfl, by kernel_rfl⟩
theorem is_eNew : FnIs Try.prog (73, Try.f73) := ⟨Try.func73, by kernel_rfl, by kernel_rfl⟩
theorem is_eCk : FnIs Try.prog (52, Try.f52) := ⟨Try.func52, by kernel_rfl, by kernel_rfl⟩
theorem is_etab : FnIs Try.prog (74, Try.f74) := ⟨Try.func74, by kernel_rfl, by kernel_rfl⟩
theorem is_ewon : FnIs Try.prog (76, Try.f76) := ⟨Try.func76, by kernel_rfl, by kernel_rfl⟩
theorem is_enum : FnIs Try.prog (53, Try.f53) := ⟨Try.func53, by kernel_rfl, by kernel_rfl⟩
abbrev cRow : TC := .st [cI, cI, cI, cI]
noncomputable def XTb : Ctx := ctxU 4 Try.prog [] [(76, Try.f76), (53, Try.f53)]
theorem XTb_ok : CtxOk XTb := ctxU_ok (u := 4) mixed puOk_nil (fns_cons is_ewon (fns_cons is_enum fns_nil))
noncomputable def lb_t1 : Code := (loopsOf (bodyOf Try.f74)).getD 1 .skip
noncomputable def lb_t0 : Code := (loopsOf (bodyOf Try.f74)).getD 0 .skip
abbrev bs_tb : List BK := [(1, 120, [.d cI, .q 0]), (0, 0, [.m cI cSc])]
def L_t1 : Lay := { keys := [1, 3, 4, 15, 16, 24, 25], ks := [.p 1 0 0 0, .o 76 cRow, .d cI, .d cI, .d cI, .d cI, .d cI], bs := bs_tb, n := 95, nx := 2000, marks := [] }
def R_t1 : Lay := { keys := [1, 3, 15, 16], ks := [.p 1 0 0 0, .o 76 cRow, .d cI, .d cI], bs := bs_tb, n := 95, nx := 2000, marks := [] }
def E_t1 : XE → Lay := fun _ => R_t1
def L_t0 : Lay := { keys := [1, 3, 15, 16], ks := [.p 1 0 0 0, .o 76 cRow, .d cI, .d cI], bs := bs_tb, n := 95, nx := 1000, marks := [] }
def R_t0 : Lay := { keys := [3], ks := [.o 76 cRow], bs := [(0, 0, [.m cI cSc])], n := 95, nx := 1000, marks := [] }
def E_t0 : XE → Lay := fun _ => R_t0
/-! a round: two rows are turned -/
abbrev Row := TCT cRow
abbrev Rows := List (TCT cRow)
section
variable {G E : Type}
def gR (l : Rows) (i : Int) : Row := getA l (Int.toNat i) (dflt cRow)
def cN (l : Rows) (i : Int) (k : Tree (G ⊕ E)) : Tree (G ⊕ E) := bif decide (Int.toNat i < l.length) then k else .fail
def stG (l : Rows) (i v : Int) (K : Rows → Tree (G ⊕ E)) : Tree (G ⊕ E) := cN l i (K (setA l (Int.toNat i) ((gR l i).1, v, (gR l i).2.2.1, (gR l i).2.2.2.1, ())))
def stW (l : Rows) (i v : Int) (K : Rows → Tree (G ⊕ E)) : Tree (G ⊕ E) := cN l i (K (setA l (Int.toNat i) ((gR l i).1, (gR l i).2.1, v, (gR l i).2.2.2.1, ())))
def stN (l : Rows) (i v : Int) (K : Rows → Tree (G ⊕ E)) : Tree (G ⊕ E) := cN l i (K (setA l (Int.toNat i) ((gR l i).1, (gR l i).2.1, (gR l i).2.2.1, v, ())))
def wlT (l : Rows) (i j p : Int) (K : Rows → Tree (G ⊕ E)) : Tree (G ⊕ E) :=
  cN l i (cN l i (cN l i (stG l i (W64 ((gR l i).2.1 + 1)) fun l1 => stW l1 i (W64 ((gR l i).2.2.1 + 1)) fun l2 => stN l2 i (W64 ((gR l i).2.2.2.1 + p)) fun l3 =>
    cN l3 j (cN l3 j (stG l3 j (W64 ((gR l3 j).2.1 + 1)) fun l4 => stN l4 j (W64 ((gR l3 j).2.2.2.1 - p)) K)))))
def numW (n a b : Int) : Int := W64 (W64 (W64 (W64 (Int.tdiv (W64 (min a b * W64 (W64 (W64 (2 * n) - min a b) - 1))) 2) + max a b) - min a b) - 1)
def b1_t1 (hd : Rows → Int → G) (l : Rows) (a b : Int) (o : Option (TCT cSc)) : Tree (G ⊕ E) :=
  bif !o.isSome then .leaf (.inl (hd l (W64 (b + 1)))) else inN l.length a (inN l.length b (bif !((or0 o).2.2.1 == 0) == decide (a < b) then wlT l b a (or0 o).2.2.2.1 fun l => .leaf (.inl (hd l (W64 (b + 1)))) else wlT l a b (or0 o).2.2.2.1 fun l => .leaf (.inl (hd l (W64 (b + 1))))))
def b0_t1 (hd : Rows → Int → G) (l : Rows) (a b : Int) (o : Option (TCT cSc)) : Tree (G ⊕ E) := bif !o.isSome then .leaf (.inl (hd l (W64 (b + 1)))) else inN l.length a (inN l.length b (wlT l b a (or0 o).2.2.2.1 fun l => .leaf (.inl (hd l (W64 (b + 1))))))
def sm_t1 (hd : Rows → Int → G) (ex : Rows → E) (l : Rows) (a u b : Int) (o : Option (TCT cSc)) : Tree (G ⊕ E) :=
  bif decide (b < u) then (bif o.isSome then b1_t1 hd l a b o else b0_t1 hd l a b o) else .leaf (.inr (ex l))
end
abbrev cT1 := L_t1.T ⊕ Left' E_t1
def hd_t1 (n : Int) (m : cMp) (a s t u : Int) (l : Rows) (b : Int) : L_t1.T := (((), l, a, s, t, u, b, ()), ((n, (), ()), (m, ()), ()))
def ex_t1 (n : Int) (m : cMp) (s t : Int) (l : Rows) : Left' E_t1 := ⟨.exit 2, (((), l, s, t, ()), ((n, (), ()), (m, ()), ()))⟩
def st_t1 (g : L_t1.T) : Tree cT1 := sm_t1 (hd_t1 g.2.1.1 g.2.2.1.1 g.1.2.2.1 g.1.2.2.2.1 g.1.2.2.2.2.1 g.1.2.2.2.2.2.1) (ex_t1 g.2.1.1 g.2.2.1.1 g.1.2.2.2.1 g.1.2.2.2.2.1) g.1.2.1 g.1.2.2.1 g.1.2.2.2.2.2.1 g.1.2.2.2.2.2.2.1 (g.2.2.1.1 (numW g.2.1.1 g.1.2.2.1 g.1.2.2.2.2.2.2.1))
def fu_t1 (g : L_t1.T) : Nat := (g.1.2.2.1 : Int).toNat + 1
theorem e_t1 (g : L_t1.T) : evC Try.prog (evFn XTb 6) XTb.pures 74 XTb.u (fun _ => none) lb_t1 (L_t1.of g) (stepOut L_t1 E_t1) = st_t1 g := by kernel_rfl
noncomputable def Lt_t0 : LoopT := assoc2 [((74, 7), loopSum L_t1 E_t1 (finX [.exit 2] st_t1 fu_t1))] 74
theorem l_t1 : LoopOk Try.prog 74 lb_t1 (loopSum L_t1 E_t1 (finX [.exit 2] st_t1 fu_t1)) := loopOk_x0 XTb_ok 6 _ L_t1 E_t1 (fun _ => Nat.le_refl _) [.exit 2] _ fu_t1 e_t1
/-! the rows, one after the other -/
abbrev cT0 := L_t0.T ⊕ Left' E_t0
def hd_t0 (n : Int) (m : cMp) (s : Int) (t : Int) (l : Rows) : L_t0.T := (((), l, s, t, ()), ((n, (), ()), (m, ()), ()))
def ex_t0 (m : cMp) (l : Rows) : Left' E_t0 := ⟨.exit 0, ((l, ()), ((m, ()), ()))⟩
def af_t0 (n : Int) (m : cMp) (s t : Int) (y : Option (Left' E_t1)) : Tree cT0 := bif isE (.exit 2) y then .leaf (.inl (hd_t0 (valE (.exit 2) y).2.1.1 (valE (.exit 2) y).2.2.1.1 (valE (.exit 2) y).1.2.2.1 (W64 ((valE (.exit 2) y).1.2.2.2.1 + 1)) (valE (.exit 2) y).1.2.1)) else .fail
def plA (l : Rows) (t : Int) : Rows := setA l (Int.toNat t) (t, (gR l t).2.1, (gR l t).2.2.1, (gR l t).2.2.2.1, ())
def sm_t0 (n : Int) (m : cMp) (s t : Int) (l : Rows) : Tree cT0 := bif decide (t < s) then inO l.length t (af_t0 n m s t (iter st_t1 (t.toNat + 1) (hd_t1 n m t s t t (plA l t) 0))) else .leaf (.inr (ex_t0 m l))
def st_t0 (g : L_t0.T) : Tree cT0 := sm_t0 g.2.1.1 g.2.2.1.1 g.1.2.2.1 g.1.2.2.2.1 g.1.2.1
def fu_t0 (g : L_t0.T) : Nat := (g.1.2.2.1 : Int).toNat + 1
theorem e_t0 (g : L_t0.T) : evC Try.prog (evFn XTb 6) XTb.pures 74 XTb.u Lt_t0 lb_t0 (L_t0.of g) (stepOut L_t0 E_t0) = st_t0 g := by kernel_rfl
theorem loops_t0 : loopsOf lb_t0 = [lb_t1] := by kernel_rfl
theorem key_t1 : keyOf lb_t1 = 7 := by kernel_rfl
theorem l_t0 : LoopOk Try.prog 74 lb_t0 (loopSum L_t0 E_t0 (finX [.exit 0] st_t0 fu_t0)) := loopOk_x XTb_ok 6 _ Lt_t0 (fun d hd f hf => by
  rw [loops_t0, List.mem_singleton] at hd
  subst hd
  rw [key_t1] at hf
  cases hf
  exact l_t1) L_t0 E_t0 (fun _ => Nat.le_refl _) [.exit 0] _ fu_t0 e_t0
/-! a contract -/
def FL_tb : FLay := { ks := [.ag [.d cI, .q 0]], bs := [(0, 0, [.m cI cSc])], nx := 1 }
def FE_tb : Bool → FLay := fun _ => { ks := [.d (.sl cRow)], bs := [(0, 0, [.m cI cSc])], nx := 1 }
def probeB (_ : Heap) (args : List AV) : Option (List Nat) := match args with
  | [.agg [_, .mp i]] => some [i]
  | _ => none
noncomputable def X_tb : Ctx := ctxL Try.prog [] [(74, Try.f74)] [((74, 3), frX [3] (loopSum L_t0 E_t0 (finX [.exit 0] st_t0 fu_t0)))]
theorem X_tb_ok : CtxOk X_tb := ctxL_ok mixed puOk_nil (fns_cons is_etab fns_nil) (loops_cons (loops_of (ds := [lb_t0, lb_t1]) (by kernel_rfl) ⟨one_key (k := 3) (by kernel_rfl) rfl (loopOk_frX [3] l_t0), no_key (k := 7) (by kernel_rfl) rfl, trivial⟩) loops_nil)
abbrev TTb := Tree (LeftF FE_tb)
def lf_tb (l : Rows) (m : cMp) : TTb := .leaf ⟨true, ((l, ()), ((m, ()), ()))⟩
def T_tb (n : Int) (y : Option (Left' E_t0)) : TTb := bif decide (0 ≤ n ∧ n ≤ n ∧ n ≤ 65536 ∧ ((32 : Nat) : Int) * n ≤ 281474976710656) then (bif isE (.exit 0) y then lf_tb (valE (.exit 0) y).1.1 (valE (.exit 0) y).2.1.1 else .fail) else .fail
def zR : Row := (0, 0, 0, 0, ())
theorem T_tb_eq (n : Int) (m : cMp) : evBody X_tb (evFn X_tb 6) 74 (ofKs FL_tb.ks ((n, (), ()), ()) FL_tb.nx) (FL_tb.lay.hp (((n, (), ()), ()), ((m, ()), ()))) (FL_tb.lay.of (((n, (), ()), ()), ((m, ()), ()))).nx (foutK FE_tb) = T_tb n (iter st_t0 (((List.replicate n.toNat zR).length : Int).toNat + 1) (hd_t0 n m ((List.replicate n.toNat zR).length : Int) 0 (List.replicate n.toNat zR))) := by kernel_rfl
end Ev
end V
end Go.Proofs.Ytgchccljmjmibaa
