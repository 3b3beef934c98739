/- Chapter 11: places, in the reference: the order; its loops. -/
import Derived.Test.YtgchccljmjmibaaJg
import Derived.Test.YtgchccljmjmibaaGt
namespace Go.Proofs.Ytgchccljmjmibaa
open Go.RowKit
namespace V
namespace Ev
theorem is_rahead : FnIs Try.prog (87, Try.f87) := ⟨Try.func87, by kernel_rfl, by kernel_rfl⟩
theorem is_rPlaces : FnIs Try.prog (43, Try.f43) := ⟨Try.func43, by kernel_rfl, by kernel_rfl⟩
abbrev nAh : Nat := 87
abbrev nRp : Nat := 43
noncomputable def plAh : List (Nat × PureT) := (nRa, s_ra) :: []
theorem puAh : PuOk Try.prog plAh := puOk_cons is_ramong.plain q_ramong puOk_nil
noncomputable def X_ah : Ctx := ctx Try.prog plAh [(87, Try.f87)]
theorem X_ah_ok : CtxOk X_ah := ctx_ok mixed puAh (fns_cons is_rahead fns_nil)
abbrev TAh := Tree (TCTs [.b])
def ab2 {β : Type} (t : Rows) (a b : Int) (k : Tree β) : Tree β := inN t.length a (inN t.length b k)
def T_ah (n : Int) (m : cMp) (t : Rows) (a b : Int) : TAh := ab2 t a b (bif (gR t a).2.2.1 != (gR t b).2.2.1 then ab2 t a b (.leaf (decide ((gR t a).2.2.1 > (gR t b).2.2.1), ())) else bif okA n t a then (bif okA n t b then (bif amV n m t (gR t a) != amV n m t (gR t b) then .leaf (decide (amV n m t (gR t a) > amV n m t (gR t b)), ()) else ab2 t a b (bif (gR t a).2.2.2.1 != (gR t b).2.2.2.1 then ab2 t a b (.leaf (decide ((gR t a).2.2.2.1 > (gR t b).2.2.2.1), ())) else .leaf (decide (a < b), ()))) else .fail) else .fail)
def okH (n : Int) (t : Rows) (a b : Int) : Bool := okA n t a && okA n t b
theorem okA_in {n : Int} {t : Rows} {a : Int} (h : okA n t a = true) : 2 ≤ n ∧ n ≤ 16 ∧ 0 ≤ a ∧ a < n ∧ okRows n t = true ∧ t.length = n.toNat ∧ ((gR t a).1 : Int) = a := by
  unfold okA at h
  simp only [Bool.and_eq_true, decide_eq_true_eq] at h
  obtain ⟨h1, h2⟩ := okRows_iff h.2
  have := h2 a.toNat (by omega)
  rw [show ((a.toNat : Nat) : Int) = a by omega] at this
  exact ⟨h.1.1, h.1.2.1, h.1.2.2.1, h.1.2.2.2, h.2, h1, this⟩
theorem T_ah_ok (n : Int) (m : cMp) (t : Rows) (a b : Int) (h : okH n t a b = true) : (T_ah n m t a b).sat (fun y => y = (befV n m t (gR t a) (gR t b), ())) := by
  unfold okH at h
  simp only [Bool.and_eq_true] at h
  obtain ⟨ha, hb⟩ := h
  obtain ⟨_, hn, a0, a1, _, hl, pa⟩ := okA_in ha
  obtain ⟨_, _, b0, b1, _, _, pb⟩ := okA_in hb
  have e : ∀ k : TAh, ab2 t a b k = k := fun k => by unfold ab2; rw [inN_ok (by omega), inN_ok (by omega)]
  unfold T_ah befV
  simp only [e, ha, hb]
  refine sat_cond (fun h => ?_) (fun h => ?_)
  · rw [h]; exact rfl
  rw [h]
  simp only [cond_true, cond_false]
  refine sat_cond (fun h => ?_) (fun h => ?_)
  · rw [h]; exact rfl
  rw [h]
  refine sat_cond (fun h => ?_) (fun h => ?_)
  · rw [h]; exact rfl
  rw [h, pa, pb, W64_id (n := 0 - a) (by omega) (by omega), W64_id (n := 0 - b) (by omega) (by omega)]
  show ((decide (a < b), ()) : Bool × Unit) = (_, ())
  congr 1
  by_cases e : a = b
  · subst e
    rw [bne_self_eq_false, cond_false]
    exact decide_eq_false (Int.lt_irrefl _)
  · rw [show (0 - a != 0 - b) = true by rw [bne_iff_ne]; omega, cond_true]
    simp only [cond_false]
    rw [decide_eq_decide]
    omega
abbrev s_ah : PureT := spec [cI, .sl cSc, .sl cRow, cI, cI] [.b] (fun x => okH x.1 x.2.2.1 x.2.2.2.1 x.2.2.2.2.1) (fun x => (befV x.1 (cntM x.2.1) x.2.2.1 (gR x.2.2.1 x.2.2.2.1) (gR x.2.2.1 x.2.2.2.2.1), ()))
theorem q_rahead : PureOk Try.prog nAh s_ah := q_by X_ah_ok 6 (fun x => T_ah x.1 (cntM x.2.1) x.2.2.1 x.2.2.2.1 x.2.2.2.2.1) (fun x => by kernel_rfl) fun x h _ => T_ah_ok x.1 (cntM x.2.1) x.2.2.1 x.2.2.2.1 x.2.2.2.2.1 h
noncomputable def plRp : List (Nat × PureT) := (nAh, s_ah) :: (42, s_Table) :: []
theorem puRp : PuOk Try.prog plRp := puOk_cons is_rahead.plain q_rahead (puOk_cons is_rTable.plain q_rTable puOk_nil)
noncomputable def XRp0 : Ctx := ctx Try.prog plRp []
theorem XRp0_ok : CtxOk XRp0 := ctx_ok mixed puRp fns_nil
noncomputable def lb_rp (k : Nat) : Code := (loopsOf (bodyOf Try.f43)).getD k .skip
def L_v1 : Lay := { keys := [0, 1, 6, 8, 9, 10], ks := [.d cI, .d (.sl cSc), .d (.sl cRow), .o 3 cI, .d cI, .d cI], bs := [], n := 56, nx := 2000, marks := [] }
def R_v1 : Lay := { keys := [0, 1, 6, 8, 9, 10], ks := [.d cI, .d (.sl cSc), .d (.sl cRow), .o 3 cI, .d cI, .d cI], bs := [], n := 56, nx := 2000, marks := [] }
def E_v1 : XE → Lay := fun _ => R_v1
def L_v0 : Lay := { keys := [0, 1, 6, 8, 9], ks := [.d cI, .d (.sl cSc), .d (.sl cRow), .o 3 cI, .d cI], bs := [], n := 56, nx := 1000, marks := [] }
def R_v0 : Lay := { keys := [8], ks := [.o 3 cI], bs := [], n := 56, nx := 1000, marks := [] }
def E_v0 : XE → Lay := fun _ => R_v0
def hd_v1 (n : Int) (l : LSh) (t : Rows) (o : List Int) (a k : Int) : L_v1.T := ((n, l, t, o, a, k, ()), ())
def ex_v1 (n : Int) (l : LSh) (t : Rows) (o : List Int) (a k : Int) : Left' E_v1 := ⟨.exit 2, ((n, l, t, o, a, k, ()), ())⟩
def hd_v0 (n : Int) (l : LSh) (t : Rows) (o : List Int) (a : Int) : L_v0.T := ((n, l, t, o, a, ()), ())
def ex_v0 (o : List Int) : Left' E_v0 := ⟨.exit 0, ((o, ()), ())⟩
abbrev cV1 := L_v1.T ⊕ Left' E_v1
abbrev cV0 := L_v0.T ⊕ Left' E_v0
def sm_v1 (n : Int) (l : LSh) (t : Rows) (o : List Int) (a k : Int) : Tree cV1 := bif decide (k < (o.length : Int)) then inO o.length k (bif okH n t a (getA o (Int.toNat k) (dflt cI)) then (bif !befV n (cntM l) t (gR t a) (gR t (getA o (Int.toNat k) (dflt cI))) then .leaf (.inl (hd_v1 n l t o a (W64 (k + 1)))) else .leaf (.inr (ex_v1 n l t o a k))) else .fail) else .leaf (.inr (ex_v1 n l t o a k))
def st_v1 (g : L_v1.T) : Tree cV1 := sm_v1 g.1.1 g.1.2.1 g.1.2.2.1 g.1.2.2.2.1 g.1.2.2.2.2.1 g.1.2.2.2.2.2.1
def fu_v1 (g : L_v1.T) : Nat := (g.1.2.2.2.1 : List Int).length + 1
theorem e_v1 (g : L_v1.T) : evC Try.prog (evFn XRp0 6) XRp0.pures nRp XRp0.u (fun _ => none) (lb_rp 1) (L_v1.of g) (stepOut L_v1 E_v1) = st_v1 g := by kernel_rfl
noncomputable def s_v1 : St → Tree (XE × St) := loopSum L_v1 E_v1 (finX [.exit 2] st_v1 fu_v1)
theorem l_v1 : LoopOk Try.prog nRp (lb_rp 1) s_v1 := loopOk_x0 XRp0_ok 6 _ L_v1 E_v1 (fun _ => Nat.le_refl _) [.exit 2] st_v1 fu_v1 e_v1
noncomputable def Lt_v0 : LoopT := assoc2 [((nRp, 9), s_v1)] nRp
/-- a window of a list -/
def wdL (L : List Int) (a b : Int) : List Int := (L.drop a.toNat).take (b.toNat - a.toNat)
def wdT {β : Type} (a b n : Int) (t : Tree β) : Tree β := bif decide (0 ≤ a ∧ a ≤ b ∧ b ≤ n) then t else .fail
def t3_v0 (n : Int) (l : LSh) (t : Rows) (o W : List Int) (a k : Int) : Tree cV0 := bif appOk W (wdL o k (o.length : Int)) 8 then .leaf (.inl (hd_v0 n l t (W ++ wdL o k (o.length : Int)) (W64 (a + 1)))) else .fail
def t2_v0 (n : Int) (l : LSh) (t : Rows) (o W : List Int) (a k : Int) : Tree cV0 := bif appOk W [a] 8 then t3_v0 n l t o (W ++ [a]) a k else .fail
def t1_v0 (nd : List Int → Tree cV0 → Tree cV0) (n : Int) (l : LSh) (t : Rows) (o : List Int) (a k : Int) : Tree cV0 := wdT 0 k (o.length : Int) (wdT 0 k (o.length : Int) (wdT k (o.length : Int) (o.length : Int) (bif appOk ([] : List Int) (wdL o 0 k) 8 then nd o (t2_v0 n l t o (wdL o 0 k) a k) else .fail)))
def y_v0 (nd : List Int → Tree cV0 → Tree cV0) (y : Option (Left' E_v1)) : Tree cV0 := bif isE (.exit 2) y then t1_v0 nd (valE (E := E_v1) (.exit 2) y).1.1 (valE (E := E_v1) (.exit 2) y).1.2.1 (valE (E := E_v1) (.exit 2) y).1.2.2.1 (valE (E := E_v1) (.exit 2) y).1.2.2.2.1 (valE (E := E_v1) (.exit 2) y).1.2.2.2.2.1 (valE (E := E_v1) (.exit 2) y).1.2.2.2.2.2.1 else .fail
def sm_v0 (nd : List Int → Tree cV0 → Tree cV0) (n : Int) (l : LSh) (t : Rows) (o : List Int) (a : Int) : Tree cV0 := bif decide (a < n) then y_v0 nd (iter st_v1 (o.length + 1) (hd_v1 n l t o a 0)) else .leaf (.inr (ex_v0 o))
def stN_v0 (nd : List Int → Tree cV0 → Tree cV0) (g : L_v0.T) : Tree cV0 := sm_v0 nd g.1.1 g.1.2.1 g.1.2.2.1 g.1.2.2.2.1 g.1.2.2.2.2.1
def nd_v0 (L : List Int) (t : Tree cV0) : Tree cV0 := .need (some (Ob.arr ⟨3, cI, L⟩) = some (Ob.arr ⟨3, cI, L⟩) ∧ True) t
theorem eN_v0 (g : L_v0.T) : evC Try.prog (evFn XRp0 6) XRp0.pures nRp XRp0.u Lt_v0 (lb_rp 0) (L_v0.of g) (stepOutZ [] L_v0 E_v0) = stN_v0 nd_v0 g := by kernel_rfl
def st_v0 (g : L_v0.T) : Tree cV0 := stN_v0 (fun _ t => t) g
def fu_v0 (g : L_v0.T) : Nat := (g.1.1 : Int).toNat + 1
theorem bif_mono {α : Type} {R : α → Prop} {b : Bool} {s t s' t' : Tree α} (h1 : s.sat R → s'.sat R) (h2 : t.sat R → t'.sat R) (h : (bif b then s else t).sat R) : (bif b then s' else t').sat R := by
  cases b with
  | true => exact h1 h
  | false => exact h2 h
theorem e_v0 (g : L_v0.T) (R : L_v0.T ⊕ Left' E_v0 → Prop) (h : (st_v0 g).sat R) : (evC Try.prog (evFn XRp0 6) XRp0.pures nRp XRp0.u Lt_v0 (lb_rp 0) (L_v0.of g) (stepOutZ [] L_v0 E_v0)).sat R := by
  rw [eN_v0]
  exact bif_mono (bif_mono (bif_mono (bif_mono (bif_mono (bif_mono (fun h => ⟨⟨rfl, trivial⟩, h⟩) id) id) id) id) id) id h
theorem loops_v0 : loopsOf (lb_rp 0) = [lb_rp 1] := by kernel_rfl
theorem key_v1 : keyOf (lb_rp 1) = 9 := by kernel_rfl
noncomputable def s_v0 : St → Tree (XE × St) := loopSum L_v0 E_v0 (finX [.exit 0] st_v0 fu_v0)
theorem l_v0 : LoopOk Try.prog nRp (lb_rp 0) s_v0 := loopOk_xW XRp0_ok 6 _ [] Lt_v0 (fun d hd f hf => by
  rw [loops_v0, List.mem_singleton] at hd
  subst hd
  rw [key_v1] at hf
  cases hf
  exact l_v1) L_v0 E_v0 (fun _ => Nat.le_refl _) [.exit 0] st_v0 fu_v0 e_v0
noncomputable def X_rP : Ctx := ctxL Try.prog plRp [(43, Try.f43)] [((nRp, 6), s_v0)]
theorem X_rP_ok : CtxOk X_rP := ctxL_ok mixed puRp (fns_cons is_rPlaces fns_nil) (loops_cons (loops_of (ds := [lb_rp 0, lb_rp 1]) (by kernel_rfl) ⟨one_key (k := 6) (by kernel_rfl) rfl l_v0, no_key (k := 9) (by kernel_rfl) rfl, trivial⟩) loops_nil)
abbrev TRP := Tree (TCTs [.sl cI, cI])
def U_rP (y : Option (Left' E_v0)) : TRP := bif isE (.exit 0) y then .leaf ((valE (E := E_v0) (.exit 0) y).1.1, 0, ()) else .fail
def T_rP (n : Int) (l : LSh) : TRP := bif blkV n l != 0 then .leaf ([], blkV n l, ()) else U_rP (iter st_v0 (n.toNat + 1) (hd_v0 n l (tblV n l) [] 0))
theorem T_rP_eq (x : TCTs [cI, .sl cSc]) : evFn X_rP 6 (.fn nRp) (encAs [cI, .sl cSc] x) noHeap 0 (outK X_rP.P [.sl cI, cI]) = T_rP x.1 x.2.1 := by kernel_rfl
end Ev
end V
end Go.Proofs.Ytgchccljmjmibaa
