/- The reference: after, has, After, SameScene; the law TacticsActs. -/
import Derived.Test.YtdblbofagfhlbaaJp
import Derived.Test.YtdblbofagfhlbaaZb
namespace Go.Proofs.Ytdblbofagfhlbaa
open Go.RowKit
namespace V
theorem is_rafter : FnIs Try.prog (71, Try.f71) := ⟨Try.func71, by kernel_rfl, by kernel_rfl⟩
theorem is_rhas : FnIs Try.prog (66, Try.f66) := ⟨Try.func66, by kernel_rfl, by kernel_rfl⟩
theorem is_rAfter : FnIs Try.prog (42, Try.f42) := ⟨Try.func42, by kernel_rfl, by kernel_rfl⟩
theorem is_rSame : FnIs Try.prog (43, Try.f43) := ⟨Try.func43, by kernel_rfl, by kernel_rfl⟩
theorem is_TacticsActs : FnIs Try.prog (9, Try.f9) := ⟨Try.func9, by kernel_rfl, by kernel_rfl⟩
/-! after -/
def T_raf (b : TCT cB) (x : TCT cSc) (a : TCT cA) : Tree (TCTs [cSc]) := bif appOk ([] : List Int) (x.2.2.1 : List Int) 8 then bif appOk ([] : List Bool) (x.2.2.2.1 : List Bool) 1 then
  bif a.1 == 1 then bif decide (0 ≤ x.2.1 ∧ x.2.1 < (b.2.2.1.length : Int)) then
    bif decide ((0 : Int) ≤ (x.2.2.2.1.length : Int) ∧ (x.2.2.2.1.length : Int) ≤ (x.2.2.2.1.length : Int) ∧ (x.2.2.2.1.length : Int) ≤ 65536 ∧ 1 * (x.2.2.2.1.length : Int) ≤ 281474976710656) then
      .leaf ((getA b.2.2.1 (Int.toNat x.2.1) (dflt cI), W64 (x.2.1 + 1), x.2.2.1, List.replicate (x.2.2.2.1.length : Int).toNat false, ()), ()) else .fail else .fail else
  bif decide (0 ≤ a.2.1 ∧ a.2.1 < (x.2.2.1.length : Int)) then bif decide (Int.toNat a.2.1 < x.2.2.1.length) then
  bif decide (0 ≤ a.2.1 ∧ a.2.1 < (x.2.2.2.1.length : Int)) then bif decide (Int.toNat a.2.1 < x.2.2.2.1.length) then
    .leaf ((a.2.2.2.1, x.2.1, setA x.2.2.1 (Int.toNat a.2.1) a.2.2.1, setA x.2.2.2.1 (Int.toNat a.2.1) true, ()), ()) else .fail else .fail else .fail else .fail else .fail else .fail
def afR (b : TCT cB) (x : TCT cSc) (a : TCT cA) : TCT cSc := sceneF (afterF b (placeF x) a)
abbrev s_rafter : PureT := spec [cB, cSc, cA] [cSc] (fun x => bOk x.1 && (placeOk x.1 x.2.1 && legalB x.1 (placeF x.2.1) x.2.2.1)) (fun x => (((afR x.1 x.2.1 x.2.2.1).1, (afR x.1 x.2.1 x.2.2.1).2.1, (afR x.1 x.2.1 x.2.2.1).2.2.1, (afR x.1 x.2.1 x.2.2.1).2.2.2.1, ()), ()))
theorem raf_run (b : TCT cB) (x1 x2 : Int) (l : List Int) (d : List Bool) (hn : (l.length : Int) ≤ 2) (hd : (d.length : Int) = (l.length : Int)) :
    ((getA b.2.2.1 (Int.toNat x2) (dflt cI), W64 (x2 + 1), l, List.replicate (d.length : Int).toNat false, ()) : TCT cSc) = afR b (x1, x2, l, d, ()) runA := by
  unfold afR afterF hoopAt placeF sceneF runA
  match l, d, hn, hd with
  | [], [], _, _ => exact rfl
  | [u], [v], _, _ => exact rfl
  | [u, u'], [v, v'], _, _ => exact rfl
  | u :: u' :: u'' :: l, d, h4, _ => simp only [List.length_cons] at h4; omega
theorem raf_roq (b : TCT cB) (x1 x2 : Int) (l : List Int) (d : List Bool) (a2 a3 a4 : Int) (hn : (l.length : Int) ≤ 2) (hd : (d.length : Int) = (l.length : Int)) (k2 : a2 = 0 ∧ 0 < (l.length : Int) ∨ a2 = 1 ∧ 1 < (l.length : Int)) :
    ((a4, x2, setA l (Int.toNat a2) a3, setA d (Int.toNat a2) true, ()) : TCT cSc) = afR b (x1, x2, l, d, ()) (2, a2, a3, a4, ()) := by
  unfold afR afterF placeF sceneF
  match l, d, hn, hd with
  | [], [], _, _ => simp at k2
  | [u], [v], _, _ =>
    rcases k2 with ⟨rfl, _⟩ | ⟨_, h⟩
    · exact rfl
    · simp at h
  | [u, u'], [v, v'], _, _ =>
    rcases k2 with ⟨rfl, _⟩ | ⟨rfl, _⟩
    · exact rfl
    · exact rfl
  | u :: u' :: u'' :: l, d, h4, _ => simp only [List.length_cons] at h4; omega
theorem T_raf_okM (b : TCT cB) (x1 x2 : Int) (l : List Int) (d : List Bool) (a1 a2 a3 a4 : Int) (hn : (l.length : Int) ≤ 2) (hd : (d.length : Int) = (l.length : Int)) (hh : 0 ≤ x2 ∧ x2 < (b.2.2.1.length : Int))
    (ha : (a1, a2, a3, a4) = ((1, 0, 0, 0) : Int × Int × Int × Int) ∨ a1 = 2 ∧ (a2 = 0 ∧ 0 < (l.length : Int) ∨ a2 = 1 ∧ 1 < (l.length : Int))) :
    (T_raf b (x1, x2, l, d, ()) (a1, a2, a3, a4, ())).sat (fun y => y = (afR b (x1, x2, l, d, ()) (a1, a2, a3, a4, ()), ())) := by
  have e1 : appOk ([] : List Int) l 8 = true := decide_eq_true (by omega)
  have e2 : appOk ([] : List Bool) d 1 = true := decide_eq_true (by omega)
  have e3 : decide (0 ≤ x2 ∧ x2 < (b.2.2.1.length : Int)) = true := decide_eq_true hh
  unfold T_raf
  simp only
  rw [e1, e2, e3]
  simp only [cond_true]
  rcases ha with e | ⟨rfl, k2⟩
  · cases e
    rw [decide_eq_true (show (0 : Int) ≤ (d.length : Int) ∧ (d.length : Int) ≤ (d.length : Int) ∧ (d.length : Int) ≤ 65536 ∧ 1 * (d.length : Int) ≤ 281474976710656 by omega)]
    exact congrArg (fun z => (z, ())) (raf_run b x1 x2 l d hn hd)
  · rw [decide_eq_true (show 0 ≤ a2 ∧ a2 < (l.length : Int) by omega), decide_eq_true (show a2.toNat < l.length by omega), decide_eq_true (show 0 ≤ a2 ∧ a2 < (d.length : Int) by omega), decide_eq_true (show a2.toNat < d.length by omega)]
    exact congrArg (fun z => (z, ())) (raf_roq b x1 x2 l d a2 a3 a4 hn hd k2)
theorem T_raf_ok {b : TCT cB} {x : TCT cSc} {a : TCT cA} (hb : bOk b = true) (hp : placeOk b x = true) (hl : legalB b (placeF x) a = true) : (T_raf b x a).sat (fun y => y = (afR b x a, ())) := by
  have hB := okB_of hb
  have hP := place_okP hp
  have hL := legalB_of hB hP hl
  have hn : ((x.2.2.1 : List Int).length : Int) ≤ 2 := hP.n.2
  have hd : (x.2.2.2.1.length : Int) = (x.2.2.1.length : Int) := by
    unfold placeOk at hp
    simp only [Bool.and_eq_true_iff] at hp
    exact of_decide_eq_true hp.2.2.2.1
  refine T_raf_okM b x.1 x.2.1 x.2.2.1 x.2.2.2.1 a.1 a.2.1 a.2.2.1 a.2.2.2.1 hn hd ⟨hP.h.1, hL.1⟩ ?_
  rcases hL.2 with e | hr
  · exact .inl (by rw [e]; rfl)
  · refine .inr ⟨hr.k, ?_⟩
    rcases hr.i with ⟨h1, h2, _⟩ | ⟨h1, h2, _⟩
    · exact .inl ⟨h1, h2⟩
    · exact .inr ⟨h1, h2⟩
theorem q_rafter : PureOk Try.prog 71 s_rafter := q_by (ctx_ok mixed puOk_nil (fns_cons is_rafter fns_nil)) 6 (fun x => T_raf x.1 x.2.1 x.2.2.1) (fun x => by kernel_rfl) fun x h _ => by
  rw [Bool.and_eq_true, Bool.and_eq_true] at h
  exact T_raf_ok h.1 h.2.1 h.2.2
/-! has -/
def plHs : List (Nat × PureT) := (83, s_racts) :: plRd
theorem puHs : PuOk Try.prog plHs := puOk_cons is_racts.plain q_racts puRd
noncomputable def lb_hs : Code := (loopsOf (bodyOf Try.f66)).getD 0 .skip
def L_hs : Lay := { keys := [5, 7, 8], ks := [.p 2 0 0 0, .d cAs, .d cI], bs := [(2, 55, [.d cI, .d cI, .d cI, .d cI])], n := 24, nx := 1000, marks := [] }
def E_hs : XE → Lay
  | .ret => { keys := [6], ks := [.d .b], bs := [], n := 24, nx := 1000, marks := [] }
  | _ => { keys := [], ks := [], bs := [], n := 24, nx := 1000, marks := [] }
def hd_hs (a : TCT cA) (l : List (TCT cA)) (i : Int) : L_hs.T := (((), l, i, ()), (a, ()))
def rt_hs : Left' E_hs := ⟨.ret, ((true, ()), ())⟩
def ex_hs : Left' E_hs := ⟨.exit 0, ((), ())⟩
def st_hs (a : TCT cA) (l : List (TCT cA)) (i : Int) : Tree (L_hs.T ⊕ Left' E_hs) := forS (l.length : Int) i (bif eqAct (getA l i.toNat (dflt cA)) a then .leaf (.inr rt_hs) else .leaf (.inl (hd_hs a l (W64 (i + 1))))) (.leaf (.inr ex_hs))
def stg_hs (g : L_hs.T) : Tree (L_hs.T ⊕ Left' E_hs) := st_hs g.2.1 g.1.2.1 g.1.2.2.1
def fu_hs (g : L_hs.T) : Nat := g.1.2.1.length + 1
noncomputable def X_hs0 : Ctx := ctx Try.prog plHs []
theorem X_hs0_ok : CtxOk X_hs0 := ctx_ok mixed puHs fns_nil
theorem l_hs : LoopOk Try.prog 66 lb_hs (loopSum L_hs E_hs (finX [.ret, .exit 0] stg_hs fu_hs)) := loopOk_x0 X_hs0_ok 7 66 L_hs E_hs (fun e => by cases e <;> exact Nat.le_refl _) _ stg_hs fu_hs (fun g => by kernel_rfl)
theorem it_hs (a : TCT cA) (l : List (TCT cA)) (hn : (l.length : Int) ≤ maxK .i64) : iter stg_hs (l.length + 1) (hd_hs a l 0) = some (bif l.any (fun x => eqAct x a) then rt_hs else ex_hs) := by
  refine iter_list l (fun i (_ : Unit) => hd_hs a l (i : Int)) (fun _ x _ => bif eqAct x a then some (.inr rt_hs) else some (.inl ())) (fun _ => some ex_hs) (fun _ _ => True) ?_ ?_ l.length 0 () _ _ (by omega) (by omega) trivial ?_
  · intro i s hi _
    have h : (stg_hs (hd_hs a l (i : Int))) = bif eqAct l[i] a then .leaf (.inr rt_hs) else .leaf (.inl (hd_hs a l ((i + 1 : Nat) : Int))) := by
      show st_hs a l (i : Int) = _
      unfold st_hs
      rw [forS_in (by omega) (by omega), W64_succ hi hn]
      have ht : (i : Int).toNat = i := by omega
      rw [ht, getA_lt hi]
    rw [h]
    cases eqAct l[i] a with
    | true => exact rfl
    | false => exact ⟨rfl, trivial⟩
  · intro s e _ he
    cases he
    show (st_hs a l (l.length : Int)).run = _
    unfold st_hs
    rw [forS_out (by omega)]
    rfl
  · rw [List.drop_zero, runO_any (fun x => eqAct x a) (fun _ => rt_hs) ex_hs l 0]
noncomputable def X_hs : Ctx := ctxL Try.prog plHs [(66, Try.f66)] [((66, 3), loopSum L_hs E_hs (finX [.ret, .exit 0] stg_hs fu_hs))]
theorem X_hs_ok : CtxOk X_hs := ctxL_ok mixed puHs (fns_cons is_rhas fns_nil) (loops_one (lb := lb_hs) (by kernel_rfl) (by kernel_rfl) l_hs)
abbrev s_rhas : PureT := spec [cB, cSc, cA] [.b] (fun x => bOk x.1 && placeOk x.1 x.2.1) (fun x => (legalB x.1 (placeF x.2.1) x.2.2.1, ()))
def y_hs (b : TCT cB) (x : TCT cSc) (a : TCT cA) : Option (Left' E_hs) := iter stg_hs ((actsF b (placeF x)).length + 1) (hd_hs a (actsF b (placeF x)) 0)
def T_hs (b : TCT cB) (x : TCT cSc) (a : TCT cA) : Tree (TCTs [.b]) := bif bOk b && placeOk b x then
  bif isE .ret (y_hs b x a) then .leaf ((valE .ret (y_hs b x a)).1.1, ()) else bif isE (.exit 0) (y_hs b x a) then .leaf (false, ()) else .fail else .fail
theorem acts_short {b : TCT cB} {x : TCT cSc} (hb : bOk b = true) (hp : placeOk b x = true) : (actsF b (placeF x)).length ≤ 201 := by
  have hP := place_okP hp
  have hl := rows_len (okB_of hb) (q := cellsP (placeF x)) hP.n.2
  unfold actsF
  cases (placeF x).2.1 == (b.2.2.1.length : Int) with
  | true => exact Nat.zero_le _
  | false =>
    rw [cond_false, List.length_cons]
    have hl : (rowsA b (cellsP (placeF x)) (placeF x).2.2.1).length ≤ 200 := hl
    omega
theorem T_hs_ok (b : TCT cB) (x : TCT cSc) (a : TCT cA) (h : (bOk b && placeOk b x) = true) : (T_hs b x a).sat (fun y => y = (legalB b (placeF x) a, ())) := by
  unfold T_hs
  have hs := h
  rw [Bool.and_eq_true] at h
  have hn := acts_short h.1 h.2
  have e : y_hs b x a = some (bif (actsF b (placeF x)).any (fun x => eqAct x a) then rt_hs else ex_hs) := it_hs a _ (by simp only [maxK]; omega)
  rw [hs, e]
  unfold legalB
  cases (actsF b (placeF x)).any (fun x => eqAct x a) <;> exact rfl
theorem q_rhas : PureOk Try.prog 66 s_rhas := q_by X_hs_ok 8 (fun x => T_hs x.1 x.2.1 x.2.2.1) (fun x => by kernel_rfl) fun x h _ => T_hs_ok _ _ _ h
/-! Acts, After -/
def plRf : List (Nat × PureT) := (66, s_rhas) :: (71, s_rafter) :: plHs
theorem puRf : PuOk Try.prog plRf := puOk_cons is_rhas.plain q_rhas (puOk_cons is_rafter.plain q_rafter puHs)
def T_rAc (b : TCT cB) (x : TCT cSc) : Tree (TCTs [cAs, cI]) := bif sceneE b x != 0 then .leaf ([], sceneE b x, ()) else bif bOk b && placeOk b x then .leaf (actsF b (placeF x), 0, ()) else .fail
theorem T_rAc_ok (b : TCT cB) (x : TCT cSc) : (T_rAc b x).sat (fun y => y = (actsV b x, sceneE b x, ())) := by
  unfold T_rAc actsV sceneE
  cases bOk b <;> cases placeOk b x <;> exact rfl
theorem q_rActs : PureOk Try.prog 40 s_Acts := q_by (ctx_ok mixed puRf (fns_cons is_rActs fns_nil)) 8 (fun x => T_rAc x.1 x.2.1) (fun x => by kernel_rfl) fun x _ _ => T_rAc_ok _ _
def T_rAf (b : TCT cB) (x : TCT cSc) (a : TCT cA) : Tree (TCTs [cSc, cI]) := bif sceneE b x != 0 then .leaf (zSc, sceneE b x, ()) else
  bif bOk b && placeOk b x then bif !legalB b (placeF x) a then .leaf (zSc, 10, ()) else
    bif bOk b && (placeOk b x && legalB b (placeF x) a) then .leaf (((afR b x a).1, (afR b x a).2.1, (afR b x a).2.2.1, (afR b x a).2.2.2.1, ()), 0, ()) else .fail else .fail
theorem T_rAf_ok (b : TCT cB) (x : TCT cSc) (a : TCT cA) : (T_rAf b x a).sat (fun y => y = (((afterV b x a).1, (afterV b x a).2.1, (afterV b x a).2.2.1, (afterV b x a).2.2.2.1, ()), worthE b x a, ())) := by
  unfold T_rAf afterV worthE sceneE
  cases bOk b <;> cases placeOk b x <;> cases legalB b (placeF x) a <;> exact rfl
theorem q_rAfter : PureOk Try.prog 42 s_After := q_by (ctx_ok mixed puRf (fns_cons is_rAfter fns_nil)) 8 (fun x => T_rAf x.1 x.2.1 x.2.2.1) (fun x => by kernel_rfl) fun x _ _ => T_rAf_ok _ _ _
/-! SameScene -/
abbrev kSc2 : List SK := [.d cI, .d cI, .d (.sl cI), .d (.sl .b)]
noncomputable def lb_ss1 : Code := (loopsOf (bodyOf Try.f43)).getD 0 .skip
noncomputable def lb_ss2 : Code := (loopsOf (bodyOf Try.f43)).getD 1 .skip
def bs_ss : List BK := [(0, 36, kSc2), (1, 36, kSc2)]
def L_ss1 : Lay := { keys := [2, 3, 5], ks := [.p 0 0 0 0, .p 1 0 0 0, .d cI], bs := bs_ss, n := 73, nx := 1000, marks := [] }
def L_ss2 : Lay := { keys := [2, 3, 6], ks := [.p 0 0 0 0, .p 1 0 0 0, .d cI], bs := bs_ss, n := 73, nx := 2000, marks := [] }
def Q_ss : Lay := { keys := [4], ks := [.d .b], bs := [], n := 73, nx := 2000, marks := [] }
def E_ss1 : XE → Lay
  | .ret => Q_ss
  | _ => { keys := [2, 3], ks := [.p 0 0 0 0, .p 1 0 0 0], bs := bs_ss, n := 73, nx := 2000, marks := [] }
def E_ss2 : XE → Lay
  | .ret => Q_ss
  | _ => { keys := [], ks := [], bs := [], n := 73, nx := 2000, marks := [] }
def hd_ss1 (x y : TCT cSc) (i : Int) : L_ss1.T := (((), (), i, ()), (x, y, ()))
def hd_ss2 (x y : TCT cSc) (i : Int) : L_ss2.T := (((), (), i, ()), (x, y, ()))
def rt_ss1 : Left' E_ss1 := ⟨.ret, ((false, ()), ())⟩
def ex_ss1 (x y : TCT cSc) : Left' E_ss1 := ⟨.exit 0, (((), (), ()), (x, y, ()))⟩
def rt_ss2 : Left' E_ss2 := ⟨.ret, ((false, ()), ())⟩
def ex_ss2 : Left' E_ss2 := ⟨.exit 2, ((), ())⟩
def st_ss1 (g : L_ss1.T) : Tree (L_ss1.T ⊕ Left' E_ss1) := forS (g.2.1.2.2.1.length : Int) g.1.2.2.1 (bif decide (0 ≤ g.1.2.2.1 ∧ g.1.2.2.1 < (g.2.2.1.2.2.1.length : Int)) then
  bif (getA g.2.1.2.2.1 g.1.2.2.1.toNat (dflt cI) : Int) != getA g.2.2.1.2.2.1 g.1.2.2.1.toNat (dflt cI) then .leaf (.inr rt_ss1) else .leaf (.inl (hd_ss1 g.2.1 g.2.2.1 (W64 (g.1.2.2.1 + 1)))) else .fail) (.leaf (.inr (ex_ss1 g.2.1 g.2.2.1)))
def st_ss2 (g : L_ss2.T) : Tree (L_ss2.T ⊕ Left' E_ss2) := forS (g.2.1.2.2.2.1.length : Int) g.1.2.2.1 (bif decide (0 ≤ g.1.2.2.1 ∧ g.1.2.2.1 < (g.2.2.1.2.2.2.1.length : Int)) then
  bif !((getA g.2.1.2.2.2.1 g.1.2.2.1.toNat (dflt .b) : Bool) == getA g.2.2.1.2.2.2.1 g.1.2.2.1.toNat (dflt .b)) then .leaf (.inr rt_ss2) else .leaf (.inl (hd_ss2 g.2.1 g.2.2.1 (W64 (g.1.2.2.1 + 1)))) else .fail) (.leaf (.inr ex_ss2))
def fu_ss1 (g : L_ss1.T) : Nat := g.2.1.2.2.1.length + 1
def fu_ss2 (g : L_ss2.T) : Nat := g.2.1.2.2.2.1.length + 1
noncomputable def X_ss0 : Ctx := ctx Try.prog [] []
theorem X_ss0_ok : CtxOk X_ss0 := ctx_ok mixed puOk_nil fns_nil
theorem l_ss1 : LoopOk Try.prog 43 lb_ss1 (loopSum L_ss1 E_ss1 (finX [.ret, .exit 0] st_ss1 fu_ss1)) := loopOk_x0 X_ss0_ok 7 _ L_ss1 E_ss1 (fun e => by cases e <;> exact Nat.le_of_ble_eq_true rfl) _ st_ss1 fu_ss1 (fun g => by kernel_rfl)
theorem l_ss2 : LoopOk Try.prog 43 lb_ss2 (loopSum L_ss2 E_ss2 (finX [.ret, .exit 2] st_ss2 fu_ss2)) := loopOk_x0 X_ss0_ok 7 _ L_ss2 E_ss2 (fun e => by cases e <;> exact Nat.le_refl _) _ st_ss2 fu_ss2 (fun g => by kernel_rfl)
noncomputable def X_ss : Ctx := ctxL Try.prog [] [(43, Try.f43)] [((43, 4), loopSum L_ss1 E_ss1 (finX [.ret, .exit 0] st_ss1 fu_ss1)), ((43, 9), loopSum L_ss2 E_ss2 (finX [.ret, .exit 2] st_ss2 fu_ss2))]
theorem X_ss_ok : CtxOk X_ss := ctxL_ok mixed puOk_nil (fns_cons is_rSame fns_nil) (by
  intro p hp d hd g hg
  rw [List.mem_singleton] at hp
  subst hp
  have hl : loopsOf (bodyOf Try.f43) = [lb_ss1, lb_ss2] := by kernel_rfl
  simp only at hd hg
  rw [hl] at hd
  simp only [List.mem_cons, List.not_mem_nil, or_false] at hd
  rcases hd with rfl | rfl
  · have hk : keyOf lb_ss1 = 4 := by kernel_rfl
    rw [hk] at hg
    have h2 : some (loopSum L_ss1 E_ss1 (finX [.ret, .exit 0] st_ss1 fu_ss1)) = some g := hg
    cases h2
    exact l_ss1
  · have hk : keyOf lb_ss2 = 9 := by kernel_rfl
    rw [hk] at hg
    have h2 : some (loopSum L_ss2 E_ss2 (finX [.ret, .exit 2] st_ss2 fu_ss2)) = some g := hg
    cases h2
    exact l_ss2)
def y_ss1 (x y : TCT cSc) : Option (Left' E_ss1) := iter st_ss1 (x.2.2.1.length + 1) (hd_ss1 x y 0)
def y_ss2 (x y : TCT cSc) : Option (Left' E_ss2) := iter st_ss2 (x.2.2.2.1.length + 1) (hd_ss2 x y 0)
def T_ss2 (x y : TCT cSc) : Tree (TCTs [.b]) := bif isE .ret (y_ss2 x y) then .leaf ((valE .ret (y_ss2 x y)).1.1, ()) else bif isE (.exit 2) (y_ss2 x y) then .leaf (true, ()) else .fail
def T_ss (x y : TCT cSc) : Tree (TCTs [.b]) := bif x.1 != y.1 then .leaf (false, ()) else bif x.2.1 != y.2.1 then .leaf (false, ()) else
  bif (x.2.2.1.length : Int) != (y.2.2.1.length : Int) then .leaf (false, ()) else bif (x.2.2.2.1.length : Int) != (y.2.2.2.1.length : Int) then .leaf (false, ()) else
  bif isE .ret (y_ss1 x y) then .leaf ((valE .ret (y_ss1 x y)).1.1, ()) else bif isE (.exit 0) (y_ss1 x y) then T_ss2 (valE (.exit 0) (y_ss1 x y)).2.1 (valE (.exit 0) (y_ss1 x y)).2.2.1 else .fail
def sameS (x y : TCT cSc) : Bool := !(x.1 != y.1) && (!(x.2.1 != y.2.1) && (!((x.2.2.1.length : Int) != (y.2.2.1.length : Int)) && (!((x.2.2.2.1.length : Int) != (y.2.2.2.1.length : Int)) && (eqL (fun (a b : Int) => !(a != b)) x.2.2.1 y.2.2.1 && eqL (fun (a b : Bool) => a == b) x.2.2.2.1 y.2.2.2.1))))
abbrev s_rSame : PureT := spec [cSc, cSc] [.b] (fun x => decide ((x.1.2.2.1.length : Int) ≤ 1000 ∧ (x.1.2.2.2.1.length : Int) ≤ 1000)) (fun x => (sameS x.1 x.2.1, ()))
theorem it_ss1 {x y : TCT cSc} (hl : x.2.2.1.length = y.2.2.1.length) (hn : (x.2.2.1.length : Int) ≤ 1000) : y_ss1 x y = some (bif eqL (fun (a b : Int) => !(a != b)) x.2.2.1 y.2.2.1 then ex_ss1 x y else rt_ss1) := by
  refine iter_same (st := st_ss1) hl _ (fun i => hd_ss1 x y (i : Int)) rt_ss1 (ex_ss1 x y) ?_ ?_ x.2.2.1.length 0 _ (by omega) (by omega)
  · intro i hi hj
    show (forS (x.2.2.1.length : Int) (i : Int) _ _).run = _
    rw [forS_in (by omega) (by omega)]
    show (bif decide (0 ≤ (i : Int) ∧ (i : Int) < (y.2.2.1.length : Int)) then bif (getA x.2.2.1 i (dflt cI) : Int) != getA y.2.2.1 i (dflt cI) then Tree.leaf (.inr rt_ss1) else .leaf (.inl (hd_ss1 x y (W64 ((i : Int) + 1)))) else .fail : Tree (L_ss1.T ⊕ Left' E_ss1)).run = _
    rw [decide_eq_true (show 0 ≤ (i : Int) ∧ (i : Int) < (y.2.2.1.length : Int) by omega), getA_lt hi, getA_lt hj, W64_succ hi (by simp only [maxK]; omega)]
    cases hx : ((x.2.2.1[i] : Int) != y.2.2.1[i]) <;> rfl
  · show (forS (x.2.2.1.length : Int) (x.2.2.1.length : Int) _ _).run = _
    rw [forS_out (by omega)]
    rfl
theorem it_ss2 {x y : TCT cSc} (hl : x.2.2.2.1.length = y.2.2.2.1.length) (hn : (x.2.2.2.1.length : Int) ≤ 1000) : y_ss2 x y = some (bif eqL (fun (a b : Bool) => a == b) x.2.2.2.1 y.2.2.2.1 then ex_ss2 else rt_ss2) := by
  refine iter_same (st := st_ss2) hl _ (fun i => hd_ss2 x y (i : Int)) rt_ss2 ex_ss2 ?_ ?_ x.2.2.2.1.length 0 _ (by omega) (by omega)
  · intro i hi hj
    show (forS (x.2.2.2.1.length : Int) (i : Int) _ _).run = _
    rw [forS_in (by omega) (by omega)]
    show (bif decide (0 ≤ (i : Int) ∧ (i : Int) < (y.2.2.2.1.length : Int)) then bif !((getA x.2.2.2.1 i (dflt .b) : Bool) == getA y.2.2.2.1 i (dflt .b)) then Tree.leaf (.inr rt_ss2) else .leaf (.inl (hd_ss2 x y (W64 ((i : Int) + 1)))) else .fail : Tree (L_ss2.T ⊕ Left' E_ss2)).run = _
    rw [decide_eq_true (show 0 ≤ (i : Int) ∧ (i : Int) < (y.2.2.2.1.length : Int) by omega), getA_lt hi, getA_lt hj, W64_succ hi (by simp only [maxK]; omega)]
    cases hx : ((x.2.2.2.1[i] : Bool) == y.2.2.2.1[i]) <;> rfl
  · show (forS (x.2.2.2.1.length : Int) (x.2.2.2.1.length : Int) _ _).run = _
    rw [forS_out (by omega)]
    rfl
theorem T_ss_ok (x y : TCT cSc) (h : (x.2.2.1.length : Int) ≤ 1000 ∧ (x.2.2.2.1.length : Int) ≤ 1000) : (T_ss x y).sat (fun z => z = (sameS x y, ())) := by
  unfold T_ss sameS
  cases h1 : (x.1 : Int) != y.1 with
  | true => exact rfl
  | false =>
    cases h2 : (x.2.1 : Int) != y.2.1 with
    | true => exact rfl
    | false =>
      cases h3 : (x.2.2.1.length : Int) != (y.2.2.1.length : Int) with
      | true => exact rfl
      | false =>
        cases h4 : (x.2.2.2.1.length : Int) != (y.2.2.2.1.length : Int) with
        | true => exact rfl
        | false =>
          have h3 : (x.2.2.1.length : Int) = (y.2.2.1.length : Int) := by simpa using h3
          have h4 : (x.2.2.2.1.length : Int) = (y.2.2.2.1.length : Int) := by simpa using h4
          rw [it_ss1 (by omega) h.1]
          cases eqL (fun (a b : Int) => !(a != b)) x.2.2.1 y.2.2.1 with
          | false => exact rfl
          | true =>
            show (T_ss2 x y).sat _
            unfold T_ss2
            rw [it_ss2 (by omega) h.2]
            cases eqL (fun (a b : Bool) => a == b) x.2.2.2.1 y.2.2.2.1 <;> exact rfl
theorem q_rSame : PureOk Try.prog 43 s_rSame := q_by X_ss_ok 8 (fun x => T_ss x.1 x.2.1) (fun x => by kernel_rfl) fun x h _ => T_ss_ok _ _ (of_decide_eq_true h)
theorem sameS_self (x : TCT cSc) : sameS x x = true := by
  unfold sameS
  rw [eqL_refl (fun a => by simp), eqL_refl (fun a => by simp)]
  simp
/-! the law -/
def plAl : List (Nat × PureT) := [(15, s_wide), (36, s_Board), (37, s_Board), (38, s_rScene), (16, s_rScene), (34, s_Dist), (35, s_Dist), (39, s_Acts), (40, s_Acts), (41, s_After), (42, s_After), (43, s_rSame), (13, s_fine)]
theorem puAl : PuOk Try.prog plAl := puOk_cons is_wide.plain q_wide (puOk_cons is_tBoard.plain q_Board (puOk_cons is_rBoard.plain q_rBoard (puOk_cons is_tScene.plain q_tScene (puOk_cons is_rScene.plain q_rScene (puOk_cons is_tDist.plain q_tDist (puOk_cons is_rDist.plain q_rDist (puOk_cons is_tActs.plain q_Acts (puOk_cons is_rActs.plain q_rActs (puOk_cons is_tAfter.plain q_After (puOk_cons is_rAfter.plain q_rAfter (puOk_cons is_rSame.plain q_rSame (puOk_cons is_fine.plain q_fine puOk_nil))))))))))))
noncomputable def lb_al : Code := (loopsOf (bodyOf Try.f9)).getD 0 .skip
def L_al : Lay := { keys := [5, 6, 7, 15, 16, 17], ks := [.p 0 0 0 0, .p 1 0 0 0, .p 2 0 0 0, .d cAs, .d cAs, .d cI], bs := [(0, 33, kBd), (1, 36, kSc), (2, 55, [.d cI, .d cI, .d cI, .d cI])], n := 129, nx := 1000, marks := [] }
def E_al : XE → Lay
  | .ret => { keys := [10], ks := [.d .b], bs := [], n := 129, nx := 1000, marks := [] }
  | _ => { keys := [5, 6, 7], ks := [.p 0 0 0 0, .p 1 0 0 0, .p 2 0 0 0], bs := L_al.bs, n := 129, nx := 1000, marks := [] }
def hd_al (b : TCT cB) (x : TCT cSc) (a : TCT cA) (l k : List (TCT cA)) (i : Int) : L_al.T := (((), (), (), l, k, i, ()), (cellsBd b, x, a, ()))
def rt_al : Left' E_al := ⟨.ret, ((false, ()), ())⟩
def ex_al (b : TCT cB) (x : TCT cSc) (a : TCT cA) : Left' E_al := ⟨.exit 0, (((), (), (), ()), (cellsBd b, x, a, ()))⟩
def st_al (b : TCT cB) (x : TCT cSc) (a : TCT cA) (l k : List (TCT cA)) (i : Int) : Tree (L_al.T ⊕ Left' E_al) := forS (l.length : Int) i (bif decide (0 ≤ i ∧ i < (k.length : Int)) then
  bif !eqAct (getA l i.toNat (dflt cA)) (getA k i.toNat (dflt cA)) then .leaf (.inr rt_al) else .leaf (.inl (hd_al b x a l k (W64 (i + 1)))) else .fail) (.leaf (.inr (ex_al b x a)))
def stg_al (g : L_al.T) : Tree (L_al.T ⊕ Left' E_al) := st_al (brdB g.2.1) g.2.2.1 g.2.2.2.1 g.1.2.2.2.1 g.1.2.2.2.2.1 g.1.2.2.2.2.2.1
def fu_al (g : L_al.T) : Nat := g.1.2.2.2.1.length + 1
noncomputable def X_al0 : Ctx := ctx Try.prog plAl []
theorem X_al0_ok : CtxOk X_al0 := ctx_ok mixed puAl fns_nil
theorem l_al : LoopOk Try.prog 9 lb_al (loopSum L_al E_al (finX [.exit 0] stg_al fu_al)) := loopOk_x0 X_al0_ok 7 _ L_al E_al (fun e => by cases e <;> exact Nat.le_refl _) _ stg_al fu_al (fun g => by kernel_rfl)
noncomputable def X_tacticsActs : Ctx := ctxL Try.prog plAl [(9, Try.f9)] [((9, 12), loopSum L_al E_al (finX [.exit 0] stg_al fu_al))]
theorem X_tacticsActs_ok : CtxOk X_tacticsActs := ctxL_ok mixed puAl (fns_cons is_TacticsActs fns_nil) (loops_one (lb := lb_al) (by kernel_rfl) (by kernel_rfl) l_al)
abbrev cs_tacticsActs : List TC := [cB, cSc, cA, cI, cI]
def y_al (b : TCT cB) (x : TCT cSc) (a : TCT cA) : Option (Left' E_al) := iter stg_al ((actsV b x).length + 1) (hd_al b x a (actsV b x) (actsV b x) 0)
def T_al2 (b : TCT cB) (x : TCT cSc) (a : TCT cA) : Tree Unit := bif worthE b x a == worthE b x a then
  bif decide (((afterV b x a).2.2.1.length : Int) ≤ 1000 ∧ ((afterV b x a).2.2.2.1.length : Int) ≤ 1000) then bif sameS (afterV b x a) (afterV b x a) then .leaf () else .fail else .fail else .fail
def T_al (b : TCT cB) (x : TCT cSc) (a : TCT cA) (c d : Int) : Tree Unit := bif decide ((b.2.2.1.length : Int) > 20) then .leaf () else bif wideF x then .leaf () else
  bif boardF b != boardF b then .fail else bif sceneE b x != sceneE b x then .fail else bif distV b c d != distV b c d then .fail else bif distE b c d != distE b c d then .fail else
  bif sceneE b x != sceneE b x then .fail else bif ((actsV b x).length : Int) != ((actsV b x).length : Int) then .fail else
  bif isE (.exit 0) (y_al b x a) then T_al2 (brdB (valE (.exit 0) (y_al b x a)).2.1) (valE (.exit 0) (y_al b x a)).2.2.1 (valE (.exit 0) (y_al b x a)).2.2.2.1 else .fail
def TY_al (y : TCTs cs_tacticsActs) : Tree Unit := T_al y.1 y.2.1 y.2.2.1 y.2.2.2.1 y.2.2.2.2.1
theorem TY_al_eq (x : TCTs cs_tacticsActs) : evFn X_tacticsActs 8 (.fn 9) (encAs cs_tacticsActs x) noHeap 0 lawK = TY_al x := by kernel_rfl
theorem after_short (b : TCT cB) (x : TCT cSc) (a : TCT cA) : ((afterV b x a).2.2.1.length : Int) ≤ 1000 ∧ ((afterV b x a).2.2.2.1.length : Int) ≤ 1000 := by
  unfold afterV
  cases worthE b x a == 0 with
  | false => exact ⟨show (0 : Int) ≤ 1000 by decide, show (0 : Int) ≤ 1000 by decide⟩
  | true =>
    show ((ballsF _ _).length : Int) ≤ 1000 ∧ ((deadF _ _).length : Int) ≤ 1000
    unfold ballsF deadF
    rw [List.length_take, List.length_take]
    constructor <;> simp only [List.length_cons, List.length_nil] <;> omega
theorem actsV_len (b : TCT cB) (x : TCT cSc) : (actsV b x).length ≤ 201 := by
  unfold actsV
  cases h : bOk b && placeOk b x with
  | false => exact Nat.zero_le _
  | true =>
    rw [Bool.and_eq_true] at h
    exact acts_short h.1 h.2
theorem it_al (b : TCT cB) (x : TCT cSc) (a : TCT cA) (l : List (TCT cA)) (hn : l.length ≤ 1000) : iter stg_al (l.length + 1) (hd_al b x a l l 0) = some (ex_al b x a) := by
  have h := iter_same (st := stg_al) (u := l) (v := l) rfl eqAct (fun i => hd_al b x a l l (i : Int)) rt_al (ex_al b x a) (by
    intro i hi hj
    show (forS (l.length : Int) (i : Int) _ _).run = _
    rw [forS_in (by omega) (by omega)]
    show (bif decide (0 ≤ (i : Int) ∧ (i : Int) < (l.length : Int)) then bif !eqAct (getA l i (dflt cA)) (getA l i (dflt cA)) then Tree.leaf (.inr rt_al) else .leaf (.inl (hd_al b x a l l (W64 ((i : Int) + 1)))) else .fail : Tree (L_al.T ⊕ Left' E_al)).run = _
    rw [decide_eq_true (show 0 ≤ (i : Int) ∧ (i : Int) < (l.length : Int) by omega), getA_lt hi, W64_succ hi (by simp only [maxK]; omega)]
    cases eqAct l[i] l[i] <;> rfl) (by
    show (forS (l.length : Int) (l.length : Int) _ _).run = _
    rw [forS_out (by omega)]
    rfl) l.length 0 (l.length + 1) (by omega) (by omega)
  rw [List.drop_zero, eqL_refl (fun x => eqAct_iff.2 rfl)] at h
  exact h
theorem T_al_ok (b : TCT cB) (x : TCT cSc) (a : TCT cA) (c d : Int) : (T_al b x a c d).sat (fun _ => True) := by
  unfold T_al
  have e : y_al b x a = some (ex_al b x a) := it_al b x a _ (by have := actsV_len b x; omega)
  rw [e]
  simp only [bne_self_eq_false, cond_false]
  refine sat_cond (fun _ => trivial) fun _ => sat_cond (fun _ => trivial) fun _ => ?_
  show (T_al2 b x a).sat _
  unfold T_al2
  rw [decide_eq_true (after_short b x a), sameS_self, beq_self_eq_true]
  trivial
theorem tacticsActs_sat : LawSat X_tacticsActs 9 cs_tacticsActs 8 := lawSat 8 TY_al TY_al_eq (fun _ _ => T_al_ok _ _ _ _ _)
end V
end Go.Proofs.Ytdblbofagfhlbaa
