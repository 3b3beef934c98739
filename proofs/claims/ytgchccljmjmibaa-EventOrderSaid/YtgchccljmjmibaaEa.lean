/- Chapter 11: sheets that are valid; powers of two. -/
import Derived.Test.YtgchccljmjmibaaZz
namespace Go.Proofs.Ytgchccljmjmibaa
open Go.RowKit
namespace V
namespace Ev
abbrev TBo := Tree (TCTs [.b])
def andT (a : Bool) (t : TBo) : TBo := bif a then t else .leaf (false, ())
theorem andT_ok {a b : Bool} {t : TBo} (h : t.sat (fun y => y = (b, ()))) : (andT a t).sat (fun y => y = (a && b, ())) := by
  unfold andT
  cases a with
  | true => rw [Bool.true_and]; exact h
  | false => exact rfl
theorem leafB (b : Bool) : (Tree.leaf (b, ()) : TBo).sat (fun y => y = (b, ())) := rfl
def orT (a : Bool) (t : TBo) : TBo := bif a then .leaf (true, ()) else t
theorem orT_ok {a b : Bool} {t : TBo} (h : t.sat (fun y => y = (b, ()))) : (orT a t).sat (fun y => y = (a || b, ())) := by
  unfold orT
  cases a with
  | true => exact rfl
  | false => rw [Bool.false_or]; exact h
abbrev cSc : TC := .st [cI, cI, cI, cI]
/-- a number without its last bit -/
def clr1 (n : Int) : Int := W64 ↑(BitVec.toNat (BitVec.ofInt (IntKind.bits .i64) n &&& ~~~BitVec.ofInt (IntKind.bits .i64) 1))
/-- a sheet is not valid -/
def badS (s : TCT cSc) : Bool := decide (s.2.1 < 0) || (clr1 s.2.2.1 != 0 || (decide (s.2.2.2.1 < 1) || decide (s.2.2.2.1 > 26)))
abbrev s_badS : PureT := spec [cSc] [.b] (fun _ => true) (fun x => (badS x.1, ()))
def T_badS (s : TCT cSc) : TBo := orT (decide (s.2.1 < 0)) (orT (clr1 s.2.2.1 != 0) (orT (decide (s.2.2.2.1 < 1)) (.leaf (decide (s.2.2.2.1 > 26), ()))))
theorem T_badS_ok (s : TCT cSc) : (T_badS s).sat (fun y => y = (badS s, ())) := orT_ok (orT_ok (orT_ok (leafB _)))
theorem is_chk1 : FnIs Try.prog (98, Try.f98) := ⟨Try.func98, by kernel_rfl, by kernel_rfl⟩
theorem q_chk1 : PureOk Try.prog 98 s_badS := q_by (ctx_ok mixed puOk_nil (fns_cons is_chk1 fns_nil)) 3 (fun x => T_badS x.1) (fun x => by kernel_rfl) fun x _ _ => T_badS_ok x.1
noncomputable def plCk : List (Nat × PureT) := [(98, s_badS)]
theorem puCk : PuOk Try.prog plCk := puOk_cons is_chk1.plain q_chk1 puOk_nil

/-! Sco: a list has an element of a kind -/
theorem is_ixSco : FnIs Try.prog (106, Try.f106) := ⟨Try.func106, by kernel_rfl, by kernel_rfl⟩
theorem is_cfSco : FnIs Try.prog (97, Try.f97) := ⟨Try.func97, by kernel_rfl, by kernel_rfl⟩
abbrev ck_Sco : List SK := []
def p_Sco (k : SKTs ck_Sco) (x : TCT (cSc)) : Bool := badS x
noncomputable def lb_ixSco : Code := (loopsOf (bodyOf Try.f106)).getD 0 .skip
def L_ixSco : Lay := { keys := [0, 1, 7, 8], ks := [.d (.sl (cSc)), .f 98 [] ck_Sco, .d cI, .d cI], bs := [], n := 19, nx := 1000, marks := [] }
def Rr_ixSco : Lay := { keys := [4], ks := [.d cI], bs := [], n := 19, nx := 1000, marks := [] }
def Re_ixSco : Lay := { keys := [], ks := [], bs := [], n := 19, nx := 1000, marks := [] }
def E_ixSco : XE → Lay
  | .ret => Rr_ixSco
  | _ => Re_ixSco
def hd_ixSco (k : SKTs ck_Sco) (l : List (TCT (cSc))) (n i : Int) : L_ixSco.T := ((l, ((), k), n, i, ()), ())
def r_ixSco (i : Int) : Left' E_ixSco := ⟨.ret, ((i, ()), ())⟩
def e_ixSco : Left' E_ixSco := ⟨.exit 0, ((), ())⟩
def body_ixSco (k : SKTs ck_Sco) (l : List (TCT (cSc))) (n : Int) (x : TCT (cSc)) (i : Int) : Tree (L_ixSco.T ⊕ Left' E_ixSco) := bif p_Sco k x then .leaf (.inr (r_ixSco i)) else .leaf (.inl (hd_ixSco k l n (W64 (i + 1))))
def st_ixSco (k : SKTs ck_Sco) (l : List (TCT (cSc))) (n i : Int) : Tree (L_ixSco.T ⊕ Left' E_ixSco) :=
  bif decide (i < n) then bif decide (0 ≤ i ∧ i < (l.length : Int)) then body_ixSco k l n (getA l i.toNat (dflt (cSc))) i else .fail else .leaf (.inr e_ixSco)
def fin_ixSco (g : L_ixSco.T) : Tree (Left' E_ixSco) :=
  .br (atHead g.1.2.2.1 g.1.2.2.2.1 g.1.1) (.br (g.1.1.any (p_Sco g.1.2.1.2)) (.leaf (r_ixSco (g.1.1.findIdx (p_Sco g.1.2.1.2)))) (.leaf e_ixSco)) .fail
theorem l_ixSco : LoopOk Try.prog 106 lb_ixSco (loopSum L_ixSco E_ixSco fin_ixSco) := by
  refine loopOk_of (X := ctx Try.prog plCk []) (ctx_ok mixed puCk fns_nil) 7 106 (fun _ => none) (fun _ _ f h => by simp at h) L_ixSco E_ixSco (fun e => by cases e <;> exact Nat.le_refl _) fin_ixSco (fun g => st_ixSco g.1.2.1.2 g.1.1 g.1.2.2.1 g.1.2.2.2.1) (fun g => by kernel_rfl) ?_
  rintro ⟨⟨l, ⟨⟨⟩, k⟩, n, i, ⟨⟩⟩, ⟨⟩⟩ R hw hf
  obtain ⟨hf, h0⟩ := hf
  by_cases hc : n = (l.length : Int) ∧ i = 0
  · obtain ⟨rfl, rfl⟩ := hc
    have hf := hf (decide_eq_true ⟨rfl, rfl⟩)
    refine forL l (dflt (cSc)) (wfl_len hw.1.1) (fun n i _ => hd_ixSco k l n i) (fun x i (_ : Unit) => bif p_Sco k x then .inr (r_ixSco i) else .inl ()) (fun _ => e_ixSco) (fun _ => True) (fun x i _ => body_ixSco k l l.length x i) (fun i _ => rfl) ?_ () trivial ?_
    · intro i _ hi Q _ _ hw1 hQ
      show (body_ixSco k l l.length l[i] i).sat Q
      unfold body_ixSco
      rw [hw1]
      cases hp : p_Sco k l[i] with
      | true => rw [hp] at hQ; exact hQ
      | false => rw [hp] at hQ; exact hQ trivial
    · rw [run_any (p_Sco k) (fun i => r_ixSco i) e_ixSco l 0, Nat.zero_add]
      cases ha : l.any (p_Sco k) with
      | true => exact hf.1 ha
      | false => exact hf.2 ha
  · exact (h0 (decide_eq_false hc)).elim
abbrev s_ixSco : PureT := kspec [.d (.sl (cSc)), .f 98 [] ck_Sco] [cI] (fun _ => true) (fun x => (bif x.1.any (p_Sco x.2.1.2) then (x.1.findIdx (p_Sco x.2.1.2) : Int) else -1, ()))
noncomputable def X_ixSco : Ctx := ctxL Try.prog plCk [(106, Try.f106)] [((106, keyOf lb_ixSco), loopSum L_ixSco E_ixSco fin_ixSco)]
theorem X_ixSco_ok : CtxOk X_ixSco := ctxL_ok mixed puCk (fns_cons is_ixSco fns_nil) (loops_one rfl (by kernel_rfl) l_ixSco)
def T_ixSco (k : SKTs ck_Sco) (l : List (TCT (cSc))) : Tree (Int × Unit) := bif atHead (l.length : Int) 0 l then bif l.any (p_Sco k) then .leaf ((l.findIdx (p_Sco k) : Int), ()) else .leaf (-1, ()) else .fail
theorem T_ixSco_ok (k : SKTs ck_Sco) (l : List (TCT (cSc))) : (T_ixSco k l).sat (fun y => y = (bif l.any (p_Sco k) then (l.findIdx (p_Sco k) : Int) else -1, ())) := by
  refine sat_must (decide_eq_true ⟨rfl, rfl⟩) ?_
  cases l.any (p_Sco k) <;> exact rfl
theorem q_ixSco : PureOk Try.prog 106 s_ixSco := kq_by X_ixSco_ok 8 (fun x => T_ixSco x.2.1.2 x.1) (fun x => by kernel_rfl) fun x _ _ => T_ixSco_ok _ _
abbrev s_cfSco : PureT := kspec [.d (.sl (cSc)), .f 98 [] ck_Sco] [.b] (fun _ => true) (fun x => (x.1.any (p_Sco x.2.1.2), ()))
theorem any_idxSco (k : SKTs ck_Sco) (l : List (TCT (cSc))) : (Tree.leaf (decide ((bif l.any (p_Sco k) then (l.findIdx (p_Sco k) : Int) else -1) ≥ 0), ()) : Tree (Bool × Unit)).sat (fun y => y = (l.any (p_Sco k), ())) := by
  rw [any_idx]; exact rfl
theorem q_cfSco : PureOk Try.prog 97 s_cfSco := kq_by (ctx_ok mixed (puOk_cons is_ixSco.plain q_ixSco puOk_nil) (fns_cons is_cfSco fns_nil)) 8 (fun x => .leaf (decide ((bif x.1.any (p_Sco x.2.1.2) then (x.1.findIdx (p_Sco x.2.1.2) : Int) else -1) ≥ 0), ())) (fun x => by kernel_rfl) fun x _ _ => any_idxSco _ _

/-- the error of sheets -/
def chkV (l : List (TCT cSc)) : Int := bif decide ((l.length : Int) > 400) then 6 else bif l.any badS then 2 else 0
end Ev
end V
end Go.Proofs.Ytgchccljmjmibaa
