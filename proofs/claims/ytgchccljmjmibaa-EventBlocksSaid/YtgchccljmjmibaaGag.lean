/- Chapter 11: the sheets that count, as a map of the caller's own. -/
import Derived.Test.YtgchccljmjmibaaEdg
import Derived.Test.YtgchccljmjmibaaBag
namespace Go.Proofs.Ytgchccljmjmibaa
open Go.RowKit
namespace V
namespace Ev
def probeN (_ : Heap) (_ : List AV) : Option (List Nat) := some []
def FL_ct : FLay := { ks := [.d (.sl cSc)], bs := [], nx := 0 }
def FE_ct : Bool → FLay := fun _ => { ks := [.q 1], bs := [(1, 0, [.m cI cSc])], nx := 2 }
def fin_ct (g : FL_ct.T) : Tree (LeftF FE_ct) := .leaf ⟨true, (((), ()), ((cntM g.1.1, ()), ()))⟩
noncomputable def X_ct : Ctx := ctxL Try.prog plCo [(65, Try.f65)] [((65, 4), loopSum (L_co 0) (E_co 0) (finX [.exit 0] st_co0 fu_co0))]
theorem X_ct_ok : CtxOk X_ct := ctxL_ok mixed puCo (fns_cons is_cnt fns_nil) (loops_cons (loops_of (ds := [lb_co]) (by kernel_rfl) ⟨one_key (k := 4) (by kernel_rfl) rfl l_co0, trivial⟩) loops_nil)
def T_ct (y : Option (Left' (E_co 0))) : Tree (LeftF FE_ct) := bif isE (.exit 0) y then .leaf ⟨true, (((), ()), (((valE (.exit 0) y).2.1.1, ()), ()))⟩ else .fail
theorem T_ct_eq (l : List (TCT cSc)) : evBody X_ct (evFn X_ct 6) 65 (ofKs FL_ct.ks (l, ()) FL_ct.nx) (FL_ct.lay.hp ((l, ()), ())) (FL_ct.lay.of ((l, ()), ())).nx (foutK FE_ct) = T_ct (iter st_co0 (l.length + 1) (hd_co0 l l.length 0 (fun _ => none))) := by kernel_rfl
theorem sp_cnt : SpecOk Try.prog 65 (fspec probeN FL_ct FE_ct fin_ct) := by
  refine fspec_ok (X := X_ct) (L := FL_ct) (E := FE_ct) (fin := fin_ct) X_ct_ok 6 (fun _ => Nat.zero_le 2) fun g R hw hf => ?_
  obtain ⟨⟨l, ⟨⟩⟩, ⟨⟩⟩ := g
  rw [T_ct_eq l, co_run (st := st_co0) (hd_co0 l l.length) ex_co0 l hw.1.1.1 (fun _ _ => rfl)]
  exact fun _ => hf
end Ev
end V
end Go.Proofs.Ytgchccljmjmibaa
/-! Loops in which own lists become data at the end of each round, or before the loop. -/
namespace Go.Proofs.Ytgchccljmjmibaa
open Go.RowKit
namespace V
/-- from here on the lists in some slots are data -/
def fzT (ts : List Nat) (s : St) : St := { s with tm := fun t => fzA s.hp (ts.flatMap fun t => fzIds (s.tm t)) (s.tm t), hp := fzH s.hp (ts.flatMap fun t => fzIds (s.tm t)) }
theorem loopOk_fz {P : Program} {fn : FuncId} {c : Code} {f : St → Tree (XE × St)} (ts : List Nat) (h : LoopOk P fn c f) : LoopOk P fn c (fun s => f (fzT ts s)) := fun w0 _ s a w R hS hf =>
  wpX_mono (h w0 _ (fzT ts s) a w R (hS.fz _) hf) fun _ _ _ ⟨τ, x, s', h1, h2⟩ => ⟨τ, x, s', (fz_ext hS.h _).trans h1, h2⟩
/-- the end of a round: the lists in some slots become data -/
def stepOutZ (ts : List Nat) (L : Lay) (E : XE → Lay) (e : XE) (s : St) : Tree (L.T ⊕ Left' E) :=
  match e with
  | .normal => stepOut L E .normal (fzT ts s)
  | e => stepOut L E e s
theorem loopOk_ofZ {X : Ctx} (hX : CtxOk X) (m : Nat) (fn : FuncId) (ts : List Nat) (Lt : LoopT) {c : Code} (hL : ∀ d ∈ loopsOf c, ∀ f, Lt (keyOf d) = some f → LoopOk X.P fn d f) (L : Lay) (E : XE → Lay) (hE : ∀ e, L.nx ≤ (E e).nx) (fin : L.T → Tree (Left' E)) (step : L.T → Tree (L.T ⊕ Left' E))
    (hstep : ∀ g (R : L.T ⊕ Left' E → Prop), (step g).sat R → (evC X.P (evFn X m) X.pures fn X.u Lt c (L.of g) (stepOutZ ts L E)).sat R)
    (hfin : ∀ g R, L.WF g → (fin g).sat R → ∃ n, Rnds L E step R n g) : LoopOk X.P fn c (loopSum L E fin) := by
  intro w0 σ s a w R hS h
  simp only [loopSum] at h
  cases hc : Nat.ble s.nx L.nx with
  | false => simp [hc, Tree.sat] at h
  | true =>
    rw [hc, cond_true] at h
    have hnx := Nat.le_of_ble_eq_true hc
    cases he : L.to s with
    | none => simp [he, Tree.sat] at h
    | some g =>
      simp only [he, sat_map] at h
      have hfr : ∀ i, L.nx ≤ i → Free σ i := fun i hi => hS.h.free (by omega)
      have key : ∀ (n : Nat) (g : L.T) (σ' : Env) (a : Go.Act) (w : World), Rnds L E step (fun x => R (x.1, (E x.1).of x.2)) n g → L.WF g → Ext σ σ' → Sat false w0 σ' (L.of g) a w →
          roundsX X.P false fn c (XRes false w0 σ fun x s' => R (x, s')) n a w := by
        intro n
        induction n with
        | zero => intro g _ _ _ h; exact h.elim
        | succ n ih =>
          intro g σ' a w hr hwf hext hSg
          have hs := hr hwf
          have hs := hstep g _ hs
          have hw := evC_sound (α := L.T ⊕ Left' E) hX.mix hX.pures (evFn_sound hX _ m) fn X.u Lt c hL σ' _ a w _ hSg hs
          refine wpX_mono hw ?_
          rintro e a' w' ⟨τ, x, s', hext', hS', hx, hk⟩
          cases x with
          | normal =>
            simp only [stepOutZ, stepOut] at hk
            cases e <;> simp only [ExR] at hx
            split at hk <;> try (simp [Tree.sat] at hk; done)
            rename_i g' hg'
            obtain ⟨k1, rs, k2⟩ := (hS'.fz _).forget L hg'
            exact ih g' _ a' w' hk k1 (cutE_ext ((hext.trans hext').trans (fz_ext hS'.h _)) hfr) k2
          | panic v =>
            simp only [stepOutZ, stepOut] at hk
            cases hcon : conA v with
            | false => rw [hcon] at hk; exact hk.elim
            | true =>
              rw [hcon, cond_true] at hk
              split at hk <;> try (simp [Tree.sat] at hk; done)
              rename_i g' hg'
              obtain ⟨k1, rs, k2⟩ := hS'.forget _ hg'
              cases e <;> simp only [ExR] at hx
              obtain ⟨u, hu, hch⟩ := hx
              exact ⟨_, .panic v, _, cutE_ext (hext.trans hext') (fun j hj => hfr j (Nat.le_trans (hE _) hj)), k2, ⟨u, conA_rep hcon hu, hch⟩, hk k1⟩
          | exit i =>
            simp only [stepOutZ, stepOut] at hk
            cases e <;> simp only [ExR] at hx
            subst hx
            split at hk <;> try (simp [Tree.sat] at hk; done)
            rename_i g' hg'
            obtain ⟨k1, rs, k2⟩ := hS'.forget _ hg'
            exact ⟨_, .exit i, _, cutE_ext (hext.trans hext') (fun j hj => hfr j (Nat.le_trans (hE _) hj)), k2, rfl, hk k1⟩
          | ret =>
            simp only [stepOutZ, stepOut] at hk
            cases e <;> simp only [ExR] at hx
            split at hk <;> try (simp [Tree.sat] at hk; done)
            rename_i g' hg'
            obtain ⟨k1, rs, k2⟩ := hS'.forget _ hg'
            exact ⟨_, .ret, _, cutE_ext (hext.trans hext') (fun j hj => hfr j (Nat.le_trans (hE _) hj)), k2, trivial, hk k1⟩
      obtain ⟨hwf, rs, hF⟩ := hS.forget L he
      obtain ⟨n, hn⟩ := hfin g _ hwf h
      exact wpX_loop_rounds n (key n g _ a w hn hwf (cutE_ext (Ext.refl σ) hfr) hF)

theorem loopOk_xW {X : Ctx} (hX : CtxOk X) (m : Nat) (fn : FuncId) (ts : List Nat) (Lt : LoopT) {c : Code} (hL : ∀ d ∈ loopsOf c, ∀ f, Lt (keyOf d) = some f → LoopOk X.P fn d f) (L : Lay) (E : XE → Lay) (hE : ∀ e, L.nx ≤ (E e).nx) (es : List XE) (st : L.T → Tree (L.T ⊕ Left' E)) (fuel : L.T → Nat)
    (hstep : ∀ g (R : L.T ⊕ Left' E → Prop), (st g).sat R → (evC X.P (evFn X m) X.pures fn X.u Lt c (L.of g) (stepOutZ ts L E)).sat R) : LoopOk X.P fn c (loopSum L E (finX es st fuel)) := by
  refine loopOk_ofZ hX m fn ts Lt hL L E hE (finX es st fuel) st hstep ?_
  intro g R _ hf
  obtain ⟨e, he, hr⟩ := outE_sat hf
  exact ⟨_, rnds_iter _ g e he hr⟩
theorem loopOk_xZ {X : Ctx} (hX : CtxOk X) (m : Nat) (fn : FuncId) (ts : List Nat) (Lt : LoopT) {c : Code} (hL : ∀ d ∈ loopsOf c, ∀ f, Lt (keyOf d) = some f → LoopOk X.P fn d f) (L : Lay) (E : XE → Lay) (hE : ∀ e, L.nx ≤ (E e).nx) (es : List XE) (st : L.T → Tree (L.T ⊕ Left' E)) (fuel : L.T → Nat)
    (hstep : ∀ g, evC X.P (evFn X m) X.pures fn X.u Lt c (L.of g) (stepOutZ ts L E) = st g) : LoopOk X.P fn c (loopSum L E (finX es st fuel)) := by
  refine loopOk_ofZ hX m fn ts Lt hL L E hE (finX es st fuel) st (fun g R h => by rw [hstep g]; exact h) ?_
  intro g R _ hf
  obtain ⟨e, he, hr⟩ := outE_sat hf
  exact ⟨_, rnds_iter _ g e he hr⟩
end V
end Go.Proofs.Ytgchccljmjmibaa
/-! Chapter 11: tables: loops. -/
namespace Go.Proofs.Ytgchccljmjmibaa
open Go.RowKit
namespace V
/-- what is known of a loop, behind which the lists in some slots are data -/
def frX (ts : List Nat) (f : St → Tree (XE × St)) (s : St) : Tree (XE × St) := (f s).map fun y => (y.1, fzT ts y.2)
theorem loopOk_frX {P : Program} {fn : FuncId} {c : Code} {f : St → Tree (XE × St)} (ts : List Nat) (h : LoopOk P fn c f) : LoopOk P fn c (frX ts f) := fun w0 σ s a w R hS hf =>
  wpX_mono (h w0 σ s a w (fun y => R (y.1, fzT ts y.2)) hS (by unfold frX at hf; simpa only [sat_map] using hf)) fun e _ _ ⟨_, x, s', h1, h2, h3, h4⟩ => ⟨_, x, fzT ts s', h1.trans (fz_ext h2.h _), h2.fz _, (by
    cases x <;> cases e <;> simp only [ExR] at h3 ⊢ <;> first | exact h3 | exact h3.elim | (obtain ⟨v, k1, k2⟩ := h3; exact ⟨v, k1.mono (fz_ext h2.h _), k2⟩)), h4⟩
namespace Ev
theorem is_eTable : FnIs Try.prog (38, Try.f38) := ⟨Try.func38, by kernel_rfl, by kernel_rfl⟩
theorem is_eNew : FnIs Try.prog (73, Try.f73) := ⟨Try.func73, by kernel_rfl, by kernel_rfl⟩
theorem is_eCk : FnIs Try.prog (52, Try.f52) := ⟨Try.func52, by kernel_rfl, by kernel_rfl⟩
theorem is_etab : FnIs Try.prog (74, Try.f74) := ⟨Try.func74, by kernel_rfl, by kernel_rfl⟩
theorem is_ewon : FnIs Try.prog (76, Try.f76) := ⟨Try.func76, by kernel_rfl, by kernel_rfl⟩
theorem is_enum : FnIs Try.prog (53, Try.f53) := ⟨Try.func53, by kernel_rfl, by kernel_rfl⟩
abbrev cRow : TC := .st [cI, cI, cI, cI]
noncomputable def XTb : Ctx := ctxU 4 Try.prog [] [(76, Try.f76), (53, Try.f53)]
theorem XTb_ok : CtxOk XTb := ctxU_ok (u := 4) mixed puOk_nil (fns_cons is_ewon (fns_cons is_enum fns_nil))
noncomputable def lb_t1 : Code := (loopsOf (bodyOf Try.f74)).getD 1 .skip
noncomputable def lb_t0 : Code := (loopsOf (bodyOf Try.f74)).getD 0 .skip
abbrev bs_tb : List BK := [(1, 120, [.d cI, .q 0]), (0, 0, [.m cI cSc])]
def L_t1 : Lay := { keys := [1, 3, 4, 15, 16, 24, 25], ks := [.p 1 0 0 0, .o 76 cRow, .d cI, .d cI, .d cI, .d cI, .d cI], bs := bs_tb, n := 95, nx := 2000, marks := [] }
def R_t1 : Lay := { keys := [1, 3, 15, 16], ks := [.p 1 0 0 0, .o 76 cRow, .d cI, .d cI], bs := bs_tb, n := 95, nx := 2000, marks := [] }
def E_t1 : XE → Lay := fun _ => R_t1
def L_t0 : Lay := { keys := [1, 3, 15, 16], ks := [.p 1 0 0 0, .o 76 cRow, .d cI, .d cI], bs := bs_tb, n := 95, nx := 1000, marks := [] }
def R_t0 : Lay := { keys := [3], ks := [.o 76 cRow], bs := [(0, 0, [.m cI cSc])], n := 95, nx := 1000, marks := [] }
def E_t0 : XE → Lay := fun _ => R_t0
/-! a round: two rows are turned -/
abbrev Row := TCT cRow
abbrev Rows := List (TCT cRow)
section
variable {G E : Type}
def gR (l : Rows) (i : Int) : Row := getA l (Int.toNat i) (dflt cRow)
def cN (l : Rows) (i : Int) (k : Tree (G ⊕ E)) : Tree (G ⊕ E) := bif decide (Int.toNat i < l.length) then k else .fail
def stG (l : Rows) (i v : Int) (K : Rows → Tree (G ⊕ E)) : Tree (G ⊕ E) := cN l i (K (setA l (Int.toNat i) ((gR l i).1, v, (gR l i).2.2.1, (gR l i).2.2.2.1, ())))
def stW (l : Rows) (i v : Int) (K : Rows → Tree (G ⊕ E)) : Tree (G ⊕ E) := cN l i (K (setA l (Int.toNat i) ((gR l i).1, (gR l i).2.1, v, (gR l i).2.2.2.1, ())))
def stN (l : Rows) (i v : Int) (K : Rows → Tree (G ⊕ E)) : Tree (G ⊕ E) := cN l i (K (setA l (Int.toNat i) ((gR l i).1, (gR l i).2.1, (gR l i).2.2.1, v, ())))
def wlT (l : Rows) (i j p : Int) (K : Rows → Tree (G ⊕ E)) : Tree (G ⊕ E) :=
  cN l i (cN l i (cN l i (stG l i (W64 ((gR l i).2.1 + 1)) fun l1 => stW l1 i (W64 ((gR l i).2.2.1 + 1)) fun l2 => stN l2 i (W64 ((gR l i).2.2.2.1 + p)) fun l3 =>
    cN l3 j (cN l3 j (stG l3 j (W64 ((gR l3 j).2.1 + 1)) fun l4 => stN l4 j (W64 ((gR l3 j).2.2.2.1 - p)) K)))))
def numW (n a b : Int) : Int := W64 (W64 (W64 (W64 (Int.tdiv (W64 (min a b * W64 (W64 (W64 (2 * n) - min a b) - 1))) 2) + max a b) - min a b) - 1)
def b1_t1 (hd : Rows → Int → G) (l : Rows) (a b : Int) (o : Option (TCT cSc)) : Tree (G ⊕ E) :=
  bif !o.isSome then .leaf (.inl (hd l (W64 (b + 1)))) else inN l.length a (inN l.length b (bif !((or0 o).2.2.1 == 0) == decide (a < b) then wlT l b a (or0 o).2.2.2.1 fun l => .leaf (.inl (hd l (W64 (b + 1)))) else wlT l a b (or0 o).2.2.2.1 fun l => .leaf (.inl (hd l (W64 (b + 1))))))
def b0_t1 (hd : Rows → Int → G) (l : Rows) (a b : Int) (o : Option (TCT cSc)) : Tree (G ⊕ E) := bif !o.isSome then .leaf (.inl (hd l (W64 (b + 1)))) else inN l.length a (inN l.length b (wlT l b a (or0 o).2.2.2.1 fun l => .leaf (.inl (hd l (W64 (b + 1))))))
def sm_t1 (hd : Rows → Int → G) (ex : Rows → E) (l : Rows) (a u b : Int) (o : Option (TCT cSc)) : Tree (G ⊕ E) :=
  bif decide (b < u) then (bif o.isSome then b1_t1 hd l a b o else b0_t1 hd l a b o) else .leaf (.inr (ex l))
end
abbrev cT1 := L_t1.T ⊕ Left' E_t1
def hd_t1 (n : Int) (m : cMp) (a s t u : Int) (l : Rows) (b : Int) : L_t1.T := (((), l, a, s, t, u, b, ()), ((n, (), ()), (m, ()), ()))
def ex_t1 (n : Int) (m : cMp) (s t : Int) (l : Rows) : Left' E_t1 := ⟨.exit 2, (((), l, s, t, ()), ((n, (), ()), (m, ()), ()))⟩
def st_t1 (g : L_t1.T) : Tree cT1 := sm_t1 (hd_t1 g.2.1.1 g.2.2.1.1 g.1.2.2.1 g.1.2.2.2.1 g.1.2.2.2.2.1 g.1.2.2.2.2.2.1) (ex_t1 g.2.1.1 g.2.2.1.1 g.1.2.2.2.1 g.1.2.2.2.2.1) g.1.2.1 g.1.2.2.1 g.1.2.2.2.2.2.1 g.1.2.2.2.2.2.2.1 (g.2.2.1.1 (numW g.2.1.1 g.1.2.2.1 g.1.2.2.2.2.2.2.1))
def fu_t1 (g : L_t1.T) : Nat := (g.1.2.2.1 : Int).toNat + 1
theorem e_t1 (g : L_t1.T) : evC Try.prog (evFn XTb 6) XTb.pures 74 XTb.u (fun _ => none) lb_t1 (L_t1.of g) (stepOut L_t1 E_t1) = st_t1 g := by kernel_rfl
noncomputable def Lt_t0 : LoopT := assoc2 [((74, 7), loopSum L_t1 E_t1 (finX [.exit 2] st_t1 fu_t1))] 74
theorem l_t1 : LoopOk Try.prog 74 lb_t1 (loopSum L_t1 E_t1 (finX [.exit 2] st_t1 fu_t1)) := loopOk_x0 XTb_ok 6 _ L_t1 E_t1 (fun _ => Nat.le_refl _) [.exit 2] _ fu_t1 e_t1
/-! the rows, one after the other -/
abbrev cT0 := L_t0.T ⊕ Left' E_t0
def hd_t0 (n : Int) (m : cMp) (s : Int) (t : Int) (l : Rows) : L_t0.T := (((), l, s, t, ()), ((n, (), ()), (m, ()), ()))
def ex_t0 (m : cMp) (l : Rows) : Left' E_t0 := ⟨.exit 0, ((l, ()), ((m, ()), ()))⟩
def af_t0 (n : Int) (m : cMp) (s t : Int) (y : Option (Left' E_t1)) : Tree cT0 := bif isE (.exit 2) y then .leaf (.inl (hd_t0 (valE (.exit 2) y).2.1.1 (valE (.exit 2) y).2.2.1.1 (valE (.exit 2) y).1.2.2.1 (W64 ((valE (.exit 2) y).1.2.2.2.1 + 1)) (valE (.exit 2) y).1.2.1)) else .fail
def plA (l : Rows) (t : Int) : Rows := setA l (Int.toNat t) (t, (gR l t).2.1, (gR l t).2.2.1, (gR l t).2.2.2.1, ())
def sm_t0 (n : Int) (m : cMp) (s t : Int) (l : Rows) : Tree cT0 := bif decide (t < s) then inO l.length t (af_t0 n m s t (iter st_t1 (t.toNat + 1) (hd_t1 n m t s t t (plA l t) 0))) else .leaf (.inr (ex_t0 m l))
def st_t0 (g : L_t0.T) : Tree cT0 := sm_t0 g.2.1.1 g.2.2.1.1 g.1.2.2.1 g.1.2.2.2.1 g.1.2.1
def fu_t0 (g : L_t0.T) : Nat := (g.1.2.2.1 : Int).toNat + 1
theorem e_t0 (g : L_t0.T) : evC Try.prog (evFn XTb 6) XTb.pures 74 XTb.u Lt_t0 lb_t0 (L_t0.of g) (stepOut L_t0 E_t0) = st_t0 g := by kernel_rfl
theorem loops_t0 : loopsOf lb_t0 = [lb_t1] := by kernel_rfl
theorem key_t1 : keyOf lb_t1 = 7 := by kernel_rfl
theorem l_t0 : LoopOk Try.prog 74 lb_t0 (loopSum L_t0 E_t0 (finX [.exit 0] st_t0 fu_t0)) := loopOk_x XTb_ok 6 _ Lt_t0 (fun d hd f hf => by
  rw [loops_t0, List.mem_singleton] at hd
  subst hd
  rw [key_t1] at hf
  cases hf
  exact l_t1) L_t0 E_t0 (fun _ => Nat.le_refl _) [.exit 0] _ fu_t0 e_t0
/-! a contract -/
def FL_tb : FLay := { ks := [.ag [.d cI, .q 0]], bs := [(0, 0, [.m cI cSc])], nx := 1 }
def FE_tb : Bool → FLay := fun _ => { ks := [.d (.sl cRow)], bs := [(0, 0, [.m cI cSc])], nx := 1 }
def probeB (_ : Heap) (args : List AV) : Option (List Nat) := match args with
  | [.agg [_, .mp i]] => some [i]
  | _ => none
noncomputable def X_tb : Ctx := ctxL Try.prog [] [(74, Try.f74)] [((74, 3), frX [3] (loopSum L_t0 E_t0 (finX [.exit 0] st_t0 fu_t0)))]
theorem X_tb_ok : CtxOk X_tb := ctxL_ok mixed puOk_nil (fns_cons is_etab fns_nil) (loops_cons (loops_of (ds := [lb_t0, lb_t1]) (by kernel_rfl) ⟨one_key (k := 3) (by kernel_rfl) rfl (loopOk_frX [3] l_t0), no_key (k := 7) (by kernel_rfl) rfl, trivial⟩) loops_nil)
abbrev TTb := Tree (LeftF FE_tb)
def lf_tb (l : Rows) (m : cMp) : TTb := .leaf ⟨true, ((l, ()), ((m, ()), ()))⟩
def T_tb (n : Int) (y : Option (Left' E_t0)) : TTb := bif decide (0 ≤ n ∧ n ≤ n ∧ n ≤ 65536 ∧ ((32 : Nat) : Int) * n ≤ 281474976710656) then (bif isE (.exit 0) y then lf_tb (valE (.exit 0) y).1.1 (valE (.exit 0) y).2.1.1 else .fail) else .fail
def zR : Row := (0, 0, 0, 0, ())
theorem T_tb_eq (n : Int) (m : cMp) : evBody X_tb (evFn X_tb 6) 74 (ofKs FL_tb.ks ((n, (), ()), ()) FL_tb.nx) (FL_tb.lay.hp (((n, (), ()), ()), ((m, ()), ()))) (FL_tb.lay.of (((n, (), ()), ()), ((m, ()), ()))).nx (foutK FE_tb) = T_tb n (iter st_t0 (((List.replicate n.toNat zR).length : Int).toNat + 1) (hd_t0 n m ((List.replicate n.toNat zR).length : Int) 0 (List.replicate n.toNat zR))) := by kernel_rfl
end Ev
end V
end Go.Proofs.Ytgchccljmjmibaa
