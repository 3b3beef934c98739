/- Chapter 11: sheets that are valid; powers of two. -/
import Derived.Test.YtgchccljmjmibaaBag
namespace Go.Proofs.Ytgchccljmjmibaa
open Go.RowKit
namespace V
namespace Ev
abbrev TBo := Tree (TCTs [.b])
def andT (a : Bool) (t : TBo) : TBo := bif a then t else .leaf (false, ())
theorem andT_ok {a b : Bool} {t : TBo} (h : t.sat (fun y => y = (b, ()))) : (andT a t).sat (fun y => y = (a && b, ())) := by
  unfold andT
  cases a with
  | true => rw [Bool.true_and]; exact h
  | false => exact rfl
theorem leafB (b : Bool) : (Tree.leaf (b, ()) : TBo).sat (fun y => y = (b, ())) := rfl
def orT (a : Bool) (t : TBo) : TBo := bif a then .leaf (true, ()) else t
theorem orT_ok {a b : Bool} {t : TBo} (h : t.sat (fun y => y = (b, ()))) : (orT a t).sat (fun y => y = (a || b, ())) := by
  unfold orT
  cases a with
  | true => exact rfl
  | false => rw [Bool.false_or]; exact h
abbrev cSc : TC := .st [cI, cI, cI, cI]
/-- a number without its last bit -/
def clr1 (n : Int) : Int := W64 ↑(BitVec.toNat (BitVec.ofInt (IntKind.bits .i64) n &&& ~~~BitVec.ofInt (IntKind.bits .i64) 1))
/-- a sheet is not valid -/
def badS (s : TCT cSc) : Bool := decide (s.2.1 < 0) || (clr1 s.2.2.1 != 0 || (decide (s.2.2.2.1 < 1) || decide (s.2.2.2.1 > 26)))
abbrev s_badS : PureT := spec [cSc] [.b] (fun _ => true) (fun x => (badS x.1, ()))
def T_badS (s : TCT cSc) : TBo := orT (decide (s.2.1 < 0)) (orT (clr1 s.2.2.1 != 0) (orT (decide (s.2.2.2.1 < 1)) (.leaf (decide (s.2.2.2.1 > 26), ()))))
theorem T_badS_ok (s : TCT cSc) : (T_badS s).sat (fun y => y = (badS s, ())) := orT_ok (orT_ok (orT_ok (leafB _)))
theorem is_chk1 : FnIs Try.prog (98, Try.f98) := ⟨Try.func98, by kernel_rfl, by kernel_rfl⟩
theorem q_chk1 : PureOk Try.prog 98 s_badS := q_by (ctx_ok mixed puOk_nil (fns_cons is_chk1 fns_nil)) 3 (fun x => T_badS x.1) (fun x => by kernel_rfl) fun x _ _ => T_badS_ok x.1
noncomputable def plCk : List (Nat × PureT) := [(98, s_badS)]
theorem puCk : PuOk Try.prog plCk := puOk_cons is_chk1.plain q_chk1 puOk_nil

/-! Sco: a list has an element of a kind -/
theorem is_ixSco : FnIs Try.prog (106, Try.f106) := ⟨Try.func106, by kernel_rfl, by kernel_rfl⟩
theorem is_cfSco : FnIs Try.prog (97, Try.f97) := ⟨Try.func97, by kernel_rfl, by kernel_rfl⟩
abbrev ck_Sco : List SK := []
def p_Sco (k : SKTs ck_Sco) (x : TCT (cSc)) : Bool := badS x
noncomputable def lb_ixSco : Code := (loopsOf (bodyOf Try.f106)).getD 0 .skip
def L_ixSco : Lay := { keys := [0, 1, 7, 8], ks := [.d (.sl (cSc)), .f 98 [] ck_Sco, .d cI, .d cI], bs := [], n := 19, nx := 1000, marks := [] }
def Rr_ixSco : Lay := { keys := [4], ks := [.d cI], bs := [], n := 19, nx := 1000, marks := [] }
def Re_ixSco : Lay := { keys := [], ks := [], bs := [], n := 19, nx := 1000, marks := [] }
def E_ixSco : XE → Lay
  | .ret => Rr_ixSco
  | _ => Re_ixSco
def hd_ixSco (k : SKTs ck_Sco) (l : List (TCT (cSc))) (n i : Int) : L_ixSco.T := ((l, ((), k), n, i, ()), ())
def r_ixSco (i : Int) : Left' E_ixSco := ⟨.ret, ((i, ()), ())⟩
def e_ixSco : Left' E_ixSco := ⟨.exit 0, ((), ())⟩
def body_ixSco (k : SKTs ck_Sco) (l : List (TCT (cSc))) (n : Int) (x : TCT (cSc)) (i : Int) : Tree (L_ixSco.T ⊕ Left' E_ixSco) := bif p_Sco k x then .leaf (.inr (r_ixSco i)) else .leaf (.inl (hd_ixSco k l n (W64 (i + 1))))
def st_ixSco (k : SKTs ck_Sco) (l : List (TCT (cSc))) (n i : Int) : Tree (L_ixSco.T ⊕ Left' E_ixSco) :=
  bif decide (i < n) then bif decide (0 ≤ i ∧ i < (l.length : Int)) then body_ixSco k l n (getA l i.toNat (dflt (cSc))) i else .fail else .leaf (.inr e_ixSco)
def fin_ixSco (g : L_ixSco.T) : Tree (Left' E_ixSco) :=
  .br (atHead g.1.2.2.1 g.1.2.2.2.1 g.1.1) (.br (g.1.1.any (p_Sco g.1.2.1.2)) (.leaf (r_ixSco (g.1.1.findIdx (p_Sco g.1.2.1.2)))) (.leaf e_ixSco)) .fail
theorem l_ixSco : LoopOk Try.prog 106 lb_ixSco (loopSum L_ixSco E_ixSco fin_ixSco) := by
  refine loopOk_of (X := ctx Try.prog plCk []) (ctx_ok mixed puCk fns_nil) 7 106 (fun _ => none) (fun _ _ f h => by simp at h) L_ixSco E_ixSco (fun e => by cases e <;> exact Nat.le_refl _) fin_ixSco (fun g => st_ixSco g.1.2.1.2 g.1.1 g.1.2.2.1 g.1.2.2.2.1) (fun g => by kernel_rfl) ?_
  rintro ⟨⟨l, ⟨⟨⟩, k⟩, n, i, ⟨⟩⟩, ⟨⟩⟩ R hw hf
  obtain ⟨hf, h0⟩ := hf
  by_cases hc : n = (l.length : Int) ∧ i = 0
  · obtain ⟨rfl, rfl⟩ := hc
    have hf := hf (decide_eq_true ⟨rfl, rfl⟩)
    refine forL l (dflt (cSc)) (wfl_len hw.1.1) (fun n i _ => hd_ixSco k l n i) (fun x i (_ : Unit) => bif p_Sco k x then .inr (r_ixSco i) else .inl ()) (fun _ => e_ixSco) (fun _ => True) (fun x i _ => body_ixSco k l l.length x i) (fun i _ => rfl) ?_ () trivial ?_
    · intro i _ hi Q _ _ hw1 hQ
      show (body_ixSco k l l.length l[i] i).sat Q
      unfold body_ixSco
      rw [hw1]
      cases hp : p_Sco k l[i] with
      | true => rw [hp] at hQ; exact hQ
      | false => rw [hp] at hQ; exact hQ trivial
    · rw [run_any (p_Sco k) (fun i => r_ixSco i) e_ixSco l 0, Nat.zero_add]
      cases ha : l.any (p_Sco k) with
      | true => exact hf.1 ha
      | false => exact hf.2 ha
  · exact (h0 (decide_eq_false hc)).elim
abbrev s_ixSco : PureT := kspec [.d (.sl (cSc)), .f 98 [] ck_Sco] [cI] (fun _ => true) (fun x => (bif x.1.any (p_Sco x.2.1.2) then (x.1.findIdx (p_Sco x.2.1.2) : Int) else -1, ()))
noncomputable def X_ixSco : Ctx := ctxL Try.prog plCk [(106, Try.f106)] [((106, keyOf lb_ixSco), loopSum L_ixSco E_ixSco fin_ixSco)]
theorem X_ixSco_ok : CtxOk X_ixSco := ctxL_ok mixed puCk (fns_cons is_ixSco fns_nil) (loops_one rfl (by kernel_rfl) l_ixSco)
def T_ixSco (k : SKTs ck_Sco) (l : List (TCT (cSc))) : Tree (Int × Unit) := bif atHead (l.length : Int) 0 l then bif l.any (p_Sco k) then .leaf ((l.findIdx (p_Sco k) : Int), ()) else .leaf (-1, ()) else .fail
theorem T_ixSco_ok (k : SKTs ck_Sco) (l : List (TCT (cSc))) : (T_ixSco k l).sat (fun y => y = (bif l.any (p_Sco k) then (l.findIdx (p_Sco k) : Int) else -1, ())) := by
  refine sat_must (decide_eq_true ⟨rfl, rfl⟩) ?_
  cases l.any (p_Sco k) <;> exact rfl
theorem q_ixSco : PureOk Try.prog 106 s_ixSco := kq_by X_ixSco_ok 8 (fun x => T_ixSco x.2.1.2 x.1) (fun x => by kernel_rfl) fun x _ _ => T_ixSco_ok _ _
abbrev s_cfSco : PureT := kspec [.d (.sl (cSc)), .f 98 [] ck_Sco] [.b] (fun _ => true) (fun x => (x.1.any (p_Sco x.2.1.2), ()))
theorem any_idxSco (k : SKTs ck_Sco) (l : List (TCT (cSc))) : (Tree.leaf (decide ((bif l.any (p_Sco k) then (l.findIdx (p_Sco k) : Int) else -1) ≥ 0), ()) : Tree (Bool × Unit)).sat (fun y => y = (l.any (p_Sco k), ())) := by
  rw [any_idx]; exact rfl
theorem q_cfSco : PureOk Try.prog 97 s_cfSco := kq_by (ctx_ok mixed (puOk_cons is_ixSco.plain q_ixSco puOk_nil) (fns_cons is_cfSco fns_nil)) 8 (fun x => .leaf (decide ((bif x.1.any (p_Sco x.2.1.2) then (x.1.findIdx (p_Sco x.2.1.2) : Int) else -1) ≥ 0), ())) (fun x => by kernel_rfl) fun x _ _ => any_idxSco _ _

/-- the error of sheets -/
def chkV (l : List (TCT cSc)) : Int := bif decide ((l.length : Int) > 400) then 6 else bif l.any badS then 2 else 0
end Ev
end V
end Go.Proofs.Ytgchccljmjmibaa
/-! Chapter 11: powers of two, numbers of bits: contracts by tables. -/
namespace Go.Proofs.Ytgchccljmjmibaa
open Go.RowKit
namespace V
namespace Ev
noncomputable def XO : Ctx := ctxU 8 Try.prog [] allF
theorem XO_ok : CtxOk XO := ctxU_ok (u := 8) mixed puOk_nil allF_ok
/-- bits that are set -/
def pcF : Nat → Int
  | 0 => 0
  | 1 => 1
  | 2 => 1
  | 3 => 2
  | 4 => 1
  | 5 => 2
  | 6 => 2
  | 7 => 3
  | 8 => 1
  | 9 => 2
  | 10 => 2
  | 11 => 3
  | 12 => 2
  | 13 => 3
  | 14 => 3
  | 15 => 4
  | 16 => 1
  | 17 => 2
  | 18 => 2
  | 19 => 3
  | 20 => 2
  | 21 => 3
  | 22 => 3
  | 23 => 4
  | 24 => 2
  | 25 => 3
  | 26 => 3
  | 27 => 4
  | 28 => 3
  | 29 => 4
  | 30 => 4
  | 31 => 5
  | 32 => 1
  | 33 => 2
  | 34 => 2
  | 35 => 3
  | 36 => 2
  | 37 => 3
  | 38 => 3
  | 39 => 4
  | 40 => 2
  | 41 => 3
  | 42 => 3
  | 43 => 4
  | 44 => 3
  | 45 => 4
  | 46 => 4
  | 47 => 5
  | 48 => 2
  | 49 => 3
  | 50 => 3
  | 51 => 4
  | 52 => 3
  | 53 => 4
  | 54 => 4
  | 55 => 5
  | 56 => 3
  | 57 => 4
  | 58 => 4
  | 59 => 5
  | 60 => 4
  | 61 => 5
  | 62 => 5
  | 63 => 6
  | 64 => 1
  | _ => 0
/-- how long a number is in bits -/
def blF : Nat → Int
  | 0 => 0
  | 1 => 1
  | 2 => 2
  | 3 => 2
  | 4 => 3
  | 5 => 3
  | 6 => 3
  | 7 => 3
  | 8 => 4
  | 9 => 4
  | 10 => 4
  | 11 => 4
  | 12 => 4
  | 13 => 4
  | 14 => 4
  | 15 => 4
  | 16 => 5
  | 17 => 5
  | 18 => 5
  | 19 => 5
  | 20 => 5
  | 21 => 5
  | 22 => 5
  | 23 => 5
  | 24 => 5
  | 25 => 5
  | 26 => 5
  | 27 => 5
  | 28 => 5
  | 29 => 5
  | 30 => 5
  | 31 => 5
  | 32 => 6
  | 33 => 6
  | 34 => 6
  | 35 => 6
  | 36 => 6
  | 37 => 6
  | 38 => 6
  | 39 => 6
  | 40 => 6
  | 41 => 6
  | 42 => 6
  | 43 => 6
  | 44 => 6
  | 45 => 6
  | 46 => 6
  | 47 => 6
  | 48 => 6
  | 49 => 6
  | 50 => 6
  | 51 => 6
  | 52 => 6
  | 53 => 6
  | 54 => 6
  | 55 => 6
  | 56 => 6
  | 57 => 6
  | 58 => 6
  | 59 => 6
  | 60 => 6
  | 61 => 6
  | 62 => 6
  | 63 => 6
  | 64 => 7
  | _ => 0
theorem oc_0 : evFn XO 12 (.fn 58) (encAs [.i .u64] ((0 : Int), ())) noHeap 0 (outK XO.P [cI]) = .leaf ((0 : Int), ()) := by kernel_rfl
theorem oc_1 : evFn XO 12 (.fn 58) (encAs [.i .u64] ((1 : Int), ())) noHeap 0 (outK XO.P [cI]) = .leaf ((1 : Int), ()) := by kernel_rfl
theorem oc_2 : evFn XO 12 (.fn 58) (encAs [.i .u64] ((2 : Int), ())) noHeap 0 (outK XO.P [cI]) = .leaf ((1 : Int), ()) := by kernel_rfl
theorem oc_3 : evFn XO 12 (.fn 58) (encAs [.i .u64] ((3 : Int), ())) noHeap 0 (outK XO.P [cI]) = .leaf ((2 : Int), ()) := by kernel_rfl
theorem oc_4 : evFn XO 12 (.fn 58) (encAs [.i .u64] ((4 : Int), ())) noHeap 0 (outK XO.P [cI]) = .leaf ((1 : Int), ()) := by kernel_rfl
theorem oc_5 : evFn XO 12 (.fn 58) (encAs [.i .u64] ((5 : Int), ())) noHeap 0 (outK XO.P [cI]) = .leaf ((2 : Int), ()) := by kernel_rfl
theorem oc_6 : evFn XO 12 (.fn 58) (encAs [.i .u64] ((6 : Int), ())) noHeap 0 (outK XO.P [cI]) = .leaf ((2 : Int), ()) := by kernel_rfl
theorem oc_7 : evFn XO 12 (.fn 58) (encAs [.i .u64] ((7 : Int), ())) noHeap 0 (outK XO.P [cI]) = .leaf ((3 : Int), ()) := by kernel_rfl
theorem oc_8 : evFn XO 12 (.fn 58) (encAs [.i .u64] ((8 : Int), ())) noHeap 0 (outK XO.P [cI]) = .leaf ((1 : Int), ()) := by kernel_rfl
theorem oc_9 : evFn XO 12 (.fn 58) (encAs [.i .u64] ((9 : Int), ())) noHeap 0 (outK XO.P [cI]) = .leaf ((2 : Int), ()) := by kernel_rfl
theorem oc_10 : evFn XO 12 (.fn 58) (encAs [.i .u64] ((10 : Int), ())) noHeap 0 (outK XO.P [cI]) = .leaf ((2 : Int), ()) := by kernel_rfl
theorem oc_11 : evFn XO 12 (.fn 58) (encAs [.i .u64] ((11 : Int), ())) noHeap 0 (outK XO.P [cI]) = .leaf ((3 : Int), ()) := by kernel_rfl
theorem oc_12 : evFn XO 12 (.fn 58) (encAs [.i .u64] ((12 : Int), ())) noHeap 0 (outK XO.P [cI]) = .leaf ((2 : Int), ()) := by kernel_rfl
theorem oc_13 : evFn XO 12 (.fn 58) (encAs [.i .u64] ((13 : Int), ())) noHeap 0 (outK XO.P [cI]) = .leaf ((3 : Int), ()) := by kernel_rfl
theorem oc_14 : evFn XO 12 (.fn 58) (encAs [.i .u64] ((14 : Int), ())) noHeap 0 (outK XO.P [cI]) = .leaf ((3 : Int), ()) := by kernel_rfl
theorem oc_15 : evFn XO 12 (.fn 58) (encAs [.i .u64] ((15 : Int), ())) noHeap 0 (outK XO.P [cI]) = .leaf ((4 : Int), ()) := by kernel_rfl
theorem oc_16 : evFn XO 12 (.fn 58) (encAs [.i .u64] ((16 : Int), ())) noHeap 0 (outK XO.P [cI]) = .leaf ((1 : Int), ()) := by kernel_rfl
theorem oc_17 : evFn XO 12 (.fn 58) (encAs [.i .u64] ((17 : Int), ())) noHeap 0 (outK XO.P [cI]) = .leaf ((2 : Int), ()) := by kernel_rfl
theorem oc_18 : evFn XO 12 (.fn 58) (encAs [.i .u64] ((18 : Int), ())) noHeap 0 (outK XO.P [cI]) = .leaf ((2 : Int), ()) := by kernel_rfl
theorem oc_19 : evFn XO 12 (.fn 58) (encAs [.i .u64] ((19 : Int), ())) noHeap 0 (outK XO.P [cI]) = .leaf ((3 : Int), ()) := by kernel_rfl
theorem oc_20 : evFn XO 12 (.fn 58) (encAs [.i .u64] ((20 : Int), ())) noHeap 0 (outK XO.P [cI]) = .leaf ((2 : Int), ()) := by kernel_rfl
theorem oc_21 : evFn XO 12 (.fn 58) (encAs [.i .u64] ((21 : Int), ())) noHeap 0 (outK XO.P [cI]) = .leaf ((3 : Int), ()) := by kernel_rfl
theorem oc_22 : evFn XO 12 (.fn 58) (encAs [.i .u64] ((22 : Int), ())) noHeap 0 (outK XO.P [cI]) = .leaf ((3 : Int), ()) := by kernel_rfl
theorem oc_23 : evFn XO 12 (.fn 58) (encAs [.i .u64] ((23 : Int), ())) noHeap 0 (outK XO.P [cI]) = .leaf ((4 : Int), ()) := by kernel_rfl
theorem oc_24 : evFn XO 12 (.fn 58) (encAs [.i .u64] ((24 : Int), ())) noHeap 0 (outK XO.P [cI]) = .leaf ((2 : Int), ()) := by kernel_rfl
theorem oc_25 : evFn XO 12 (.fn 58) (encAs [.i .u64] ((25 : Int), ())) noHeap 0 (outK XO.P [cI]) = .leaf ((3 : Int), ()) := by kernel_rfl
theorem oc_26 : evFn XO 12 (.fn 58) (encAs [.i .u64] ((26 : Int), ())) noHeap 0 (outK XO.P [cI]) = .leaf ((3 : Int), ()) := by kernel_rfl
theorem oc_27 : evFn XO 12 (.fn 58) (encAs [.i .u64] ((27 : Int), ())) noHeap 0 (outK XO.P [cI]) = .leaf ((4 : Int), ()) := by kernel_rfl
theorem oc_28 : evFn XO 12 (.fn 58) (encAs [.i .u64] ((28 : Int), ())) noHeap 0 (outK XO.P [cI]) = .leaf ((3 : Int), ()) := by kernel_rfl
theorem oc_29 : evFn XO 12 (.fn 58) (encAs [.i .u64] ((29 : Int), ())) noHeap 0 (outK XO.P [cI]) = .leaf ((4 : Int), ()) := by kernel_rfl
theorem oc_30 : evFn XO 12 (.fn 58) (encAs [.i .u64] ((30 : Int), ())) noHeap 0 (outK XO.P [cI]) = .leaf ((4 : Int), ()) := by kernel_rfl
theorem oc_31 : evFn XO 12 (.fn 58) (encAs [.i .u64] ((31 : Int), ())) noHeap 0 (outK XO.P [cI]) = .leaf ((5 : Int), ()) := by kernel_rfl
theorem oc_32 : evFn XO 12 (.fn 58) (encAs [.i .u64] ((32 : Int), ())) noHeap 0 (outK XO.P [cI]) = .leaf ((1 : Int), ()) := by kernel_rfl
theorem oc_33 : evFn XO 12 (.fn 58) (encAs [.i .u64] ((33 : Int), ())) noHeap 0 (outK XO.P [cI]) = .leaf ((2 : Int), ()) := by kernel_rfl
theorem oc_34 : evFn XO 12 (.fn 58) (encAs [.i .u64] ((34 : Int), ())) noHeap 0 (outK XO.P [cI]) = .leaf ((2 : Int), ()) := by kernel_rfl
theorem oc_35 : evFn XO 12 (.fn 58) (encAs [.i .u64] ((35 : Int), ())) noHeap 0 (outK XO.P [cI]) = .leaf ((3 : Int), ()) := by kernel_rfl
theorem oc_36 : evFn XO 12 (.fn 58) (encAs [.i .u64] ((36 : Int), ())) noHeap 0 (outK XO.P [cI]) = .leaf ((2 : Int), ()) := by kernel_rfl
theorem oc_37 : evFn XO 12 (.fn 58) (encAs [.i .u64] ((37 : Int), ())) noHeap 0 (outK XO.P [cI]) = .leaf ((3 : Int), ()) := by kernel_rfl
theorem oc_38 : evFn XO 12 (.fn 58) (encAs [.i .u64] ((38 : Int), ())) noHeap 0 (outK XO.P [cI]) = .leaf ((3 : Int), ()) := by kernel_rfl
theorem oc_39 : evFn XO 12 (.fn 58) (encAs [.i .u64] ((39 : Int), ())) noHeap 0 (outK XO.P [cI]) = .leaf ((4 : Int), ()) := by kernel_rfl
theorem oc_40 : evFn XO 12 (.fn 58) (encAs [.i .u64] ((40 : Int), ())) noHeap 0 (outK XO.P [cI]) = .leaf ((2 : Int), ()) := by kernel_rfl
theorem oc_41 : evFn XO 12 (.fn 58) (encAs [.i .u64] ((41 : Int), ())) noHeap 0 (outK XO.P [cI]) = .leaf ((3 : Int), ()) := by kernel_rfl
theorem oc_42 : evFn XO 12 (.fn 58) (encAs [.i .u64] ((42 : Int), ())) noHeap 0 (outK XO.P [cI]) = .leaf ((3 : Int), ()) := by kernel_rfl
theorem oc_43 : evFn XO 12 (.fn 58) (encAs [.i .u64] ((43 : Int), ())) noHeap 0 (outK XO.P [cI]) = .leaf ((4 : Int), ()) := by kernel_rfl
theorem oc_44 : evFn XO 12 (.fn 58) (encAs [.i .u64] ((44 : Int), ())) noHeap 0 (outK XO.P [cI]) = .leaf ((3 : Int), ()) := by kernel_rfl
theorem oc_45 : evFn XO 12 (.fn 58) (encAs [.i .u64] ((45 : Int), ())) noHeap 0 (outK XO.P [cI]) = .leaf ((4 : Int), ()) := by kernel_rfl
theorem oc_46 : evFn XO 12 (.fn 58) (encAs [.i .u64] ((46 : Int), ())) noHeap 0 (outK XO.P [cI]) = .leaf ((4 : Int), ()) := by kernel_rfl
theorem oc_47 : evFn XO 12 (.fn 58) (encAs [.i .u64] ((47 : Int), ())) noHeap 0 (outK XO.P [cI]) = .leaf ((5 : Int), ()) := by kernel_rfl
theorem oc_48 : evFn XO 12 (.fn 58) (encAs [.i .u64] ((48 : Int), ())) noHeap 0 (outK XO.P [cI]) = .leaf ((2 : Int), ()) := by kernel_rfl
theorem oc_49 : evFn XO 12 (.fn 58) (encAs [.i .u64] ((49 : Int), ())) noHeap 0 (outK XO.P [cI]) = .leaf ((3 : Int), ()) := by kernel_rfl
theorem oc_50 : evFn XO 12 (.fn 58) (encAs [.i .u64] ((50 : Int), ())) noHeap 0 (outK XO.P [cI]) = .leaf ((3 : Int), ()) := by kernel_rfl
theorem oc_51 : evFn XO 12 (.fn 58) (encAs [.i .u64] ((51 : Int), ())) noHeap 0 (outK XO.P [cI]) = .leaf ((4 : Int), ()) := by kernel_rfl
theorem oc_52 : evFn XO 12 (.fn 58) (encAs [.i .u64] ((52 : Int), ())) noHeap 0 (outK XO.P [cI]) = .leaf ((3 : Int), ()) := by kernel_rfl
theorem oc_53 : evFn XO 12 (.fn 58) (encAs [.i .u64] ((53 : Int), ())) noHeap 0 (outK XO.P [cI]) = .leaf ((4 : Int), ()) := by kernel_rfl
theorem oc_54 : evFn XO 12 (.fn 58) (encAs [.i .u64] ((54 : Int), ())) noHeap 0 (outK XO.P [cI]) = .leaf ((4 : Int), ()) := by kernel_rfl
theorem oc_55 : evFn XO 12 (.fn 58) (encAs [.i .u64] ((55 : Int), ())) noHeap 0 (outK XO.P [cI]) = .leaf ((5 : Int), ()) := by kernel_rfl
theorem oc_56 : evFn XO 12 (.fn 58) (encAs [.i .u64] ((56 : Int), ())) noHeap 0 (outK XO.P [cI]) = .leaf ((3 : Int), ()) := by kernel_rfl
theorem oc_57 : evFn XO 12 (.fn 58) (encAs [.i .u64] ((57 : Int), ())) noHeap 0 (outK XO.P [cI]) = .leaf ((4 : Int), ()) := by kernel_rfl
theorem oc_58 : evFn XO 12 (.fn 58) (encAs [.i .u64] ((58 : Int), ())) noHeap 0 (outK XO.P [cI]) = .leaf ((4 : Int), ()) := by kernel_rfl
theorem oc_59 : evFn XO 12 (.fn 58) (encAs [.i .u64] ((59 : Int), ())) noHeap 0 (outK XO.P [cI]) = .leaf ((5 : Int), ()) := by kernel_rfl
theorem oc_60 : evFn XO 12 (.fn 58) (encAs [.i .u64] ((60 : Int), ())) noHeap 0 (outK XO.P [cI]) = .leaf ((4 : Int), ()) := by kernel_rfl
theorem oc_61 : evFn XO 12 (.fn 58) (encAs [.i .u64] ((61 : Int), ())) noHeap 0 (outK XO.P [cI]) = .leaf ((5 : Int), ()) := by kernel_rfl
theorem oc_62 : evFn XO 12 (.fn 58) (encAs [.i .u64] ((62 : Int), ())) noHeap 0 (outK XO.P [cI]) = .leaf ((5 : Int), ()) := by kernel_rfl
theorem oc_63 : evFn XO 12 (.fn 58) (encAs [.i .u64] ((63 : Int), ())) noHeap 0 (outK XO.P [cI]) = .leaf ((6 : Int), ()) := by kernel_rfl
theorem oc_64 : evFn XO 12 (.fn 58) (encAs [.i .u64] ((64 : Int), ())) noHeap 0 (outK XO.P [cI]) = .leaf ((1 : Int), ()) := by kernel_rfl
theorem oc_all (T : Int → Tree (TCTs [cI])) (h0 : T 0 = .leaf ((0 : Int), ())) (h1 : T 1 = .leaf ((1 : Int), ())) (h2 : T 2 = .leaf ((1 : Int), ())) (h3 : T 3 = .leaf ((2 : Int), ())) (h4 : T 4 = .leaf ((1 : Int), ())) (h5 : T 5 = .leaf ((2 : Int), ())) (h6 : T 6 = .leaf ((2 : Int), ())) (h7 : T 7 = .leaf ((3 : Int), ())) (h8 : T 8 = .leaf ((1 : Int), ())) (h9 : T 9 = .leaf ((2 : Int), ())) (h10 : T 10 = .leaf ((2 : Int), ())) (h11 : T 11 = .leaf ((3 : Int), ())) (h12 : T 12 = .leaf ((2 : Int), ())) (h13 : T 13 = .leaf ((3 : Int), ())) (h14 : T 14 = .leaf ((3 : Int), ())) (h15 : T 15 = .leaf ((4 : Int), ())) (h16 : T 16 = .leaf ((1 : Int), ())) (h17 : T 17 = .leaf ((2 : Int), ())) (h18 : T 18 = .leaf ((2 : Int), ())) (h19 : T 19 = .leaf ((3 : Int), ())) (h20 : T 20 = .leaf ((2 : Int), ())) (h21 : T 21 = .leaf ((3 : Int), ())) (h22 : T 22 = .leaf ((3 : Int), ())) (h23 : T 23 = .leaf ((4 : Int), ())) (h24 : T 24 = .leaf ((2 : Int), ())) (h25 : T 25 = .leaf ((3 : Int), ())) (h26 : T 26 = .leaf ((3 : Int), ())) (h27 : T 27 = .leaf ((4 : Int), ())) (h28 : T 28 = .leaf ((3 : Int), ())) (h29 : T 29 = .leaf ((4 : Int), ())) (h30 : T 30 = .leaf ((4 : Int), ())) (h31 : T 31 = .leaf ((5 : Int), ())) (h32 : T 32 = .leaf ((1 : Int), ())) (h33 : T 33 = .leaf ((2 : Int), ())) (h34 : T 34 = .leaf ((2 : Int), ())) (h35 : T 35 = .leaf ((3 : Int), ())) (h36 : T 36 = .leaf ((2 : Int), ())) (h37 : T 37 = .leaf ((3 : Int), ())) (h38 : T 38 = .leaf ((3 : Int), ())) (h39 : T 39 = .leaf ((4 : Int), ())) (h40 : T 40 = .leaf ((2 : Int), ())) (h41 : T 41 = .leaf ((3 : Int), ())) (h42 : T 42 = .leaf ((3 : Int), ())) (h43 : T 43 = .leaf ((4 : Int), ())) (h44 : T 44 = .leaf ((3 : Int), ())) (h45 : T 45 = .leaf ((4 : Int), ())) (h46 : T 46 = .leaf ((4 : Int), ())) (h47 : T 47 = .leaf ((5 : Int), ())) (h48 : T 48 = .leaf ((2 : Int), ())) (h49 : T 49 = .leaf ((3 : Int), ())) (h50 : T 50 = .leaf ((3 : Int), ())) (h51 : T 51 = .leaf ((4 : Int), ())) (h52 : T 52 = .leaf ((3 : Int), ())) (h53 : T 53 = .leaf ((4 : Int), ())) (h54 : T 54 = .leaf ((4 : Int), ())) (h55 : T 55 = .leaf ((5 : Int), ())) (h56 : T 56 = .leaf ((3 : Int), ())) (h57 : T 57 = .leaf ((4 : Int), ())) (h58 : T 58 = .leaf ((4 : Int), ())) (h59 : T 59 = .leaf ((5 : Int), ())) (h60 : T 60 = .leaf ((4 : Int), ())) (h61 : T 61 = .leaf ((5 : Int), ())) (h62 : T 62 = .leaf ((5 : Int), ())) (h63 : T 63 = .leaf ((6 : Int), ())) (h64 : T 64 = .leaf ((1 : Int), ())) (n : Int) (h : 0 ≤ n ∧ n ≤ 64) : T n = .leaf (pcF n.toNat, ()) := by
  obtain rfl | rfl | rfl | rfl | rfl | rfl | rfl | rfl | rfl | rfl | rfl | rfl | rfl | rfl | rfl | rfl | rfl | rfl | rfl | rfl | rfl | rfl | rfl | rfl | rfl | rfl | rfl | rfl | rfl | rfl | rfl | rfl | rfl | rfl | rfl | rfl | rfl | rfl | rfl | rfl | rfl | rfl | rfl | rfl | rfl | rfl | rfl | rfl | rfl | rfl | rfl | rfl | rfl | rfl | rfl | rfl | rfl | rfl | rfl | rfl | rfl | rfl | rfl | rfl | rfl : n = 0 ∨ n = 1 ∨ n = 2 ∨ n = 3 ∨ n = 4 ∨ n = 5 ∨ n = 6 ∨ n = 7 ∨ n = 8 ∨ n = 9 ∨ n = 10 ∨ n = 11 ∨ n = 12 ∨ n = 13 ∨ n = 14 ∨ n = 15 ∨ n = 16 ∨ n = 17 ∨ n = 18 ∨ n = 19 ∨ n = 20 ∨ n = 21 ∨ n = 22 ∨ n = 23 ∨ n = 24 ∨ n = 25 ∨ n = 26 ∨ n = 27 ∨ n = 28 ∨ n = 29 ∨ n = 30 ∨ n = 31 ∨ n = 32 ∨ n = 33 ∨ n = 34 ∨ n = 35 ∨ n = 36 ∨ n = 37 ∨ n = 38 ∨ n = 39 ∨ n = 40 ∨ n = 41 ∨ n = 42 ∨ n = 43 ∨ n = 44 ∨ n = 45 ∨ n = 46 ∨ n = 47 ∨ n = 48 ∨ n = 49 ∨ n = 50 ∨ n = 51 ∨ n = 52 ∨ n = 53 ∨ n = 54 ∨ n = 55 ∨ n = 56 ∨ n = 57 ∨ n = 58 ∨ n = 59 ∨ n = 60 ∨ n = 61 ∨ n = 62 ∨ n = 63 ∨ n = 64 := by omega
  · exact h0
  · exact h1
  · exact h2
  · exact h3
  · exact h4
  · exact h5
  · exact h6
  · exact h7
  · exact h8
  · exact h9
  · exact h10
  · exact h11
  · exact h12
  · exact h13
  · exact h14
  · exact h15
  · exact h16
  · exact h17
  · exact h18
  · exact h19
  · exact h20
  · exact h21
  · exact h22
  · exact h23
  · exact h24
  · exact h25
  · exact h26
  · exact h27
  · exact h28
  · exact h29
  · exact h30
  · exact h31
  · exact h32
  · exact h33
  · exact h34
  · exact h35
  · exact h36
  · exact h37
  · exact h38
  · exact h39
  · exact h40
  · exact h41
  · exact h42
  · exact h43
  · exact h44
  · exact h45
  · exact h46
  · exact h47
  · exact h48
  · exact h49
  · exact h50
  · exact h51
  · exact h52
  · exact h53
  · exact h54
  · exact h55
  · exact h56
  · exact h57
  · exact h58
  · exact h59
  · exact h60
  · exact h61
  · exact h62
  · exact h63
  · exact h64
abbrev s_oc : PureT := spec [.i .u64] [cI] (fun x => decide (0 ≤ x.1 ∧ x.1 ≤ 64)) (fun x => (pcF x.1.toNat, ()))
theorem q_oc : PureOk Try.prog 58 s_oc := q_by2 XO_ok 12 (fun x => evFn XO 12 (.fn 58) (encAs [.i .u64] x) noHeap 0 (outK XO.P [cI])) (fun x => .leaf (pcF x.1.toNat, ())) (fun _ => rfl) (fun x h => oc_all (fun n => evFn XO 12 (.fn 58) (encAs [.i .u64] (n, ())) noHeap 0 (outK XO.P [cI])) oc_0 oc_1 oc_2 oc_3 oc_4 oc_5 oc_6 oc_7 oc_8 oc_9 oc_10 oc_11 oc_12 oc_13 oc_14 oc_15 oc_16 oc_17 oc_18 oc_19 oc_20 oc_21 oc_22 oc_23 oc_24 oc_25 oc_26 oc_27 oc_28 oc_29 oc_30 oc_31 oc_32 oc_33 oc_34 oc_35 oc_36 oc_37 oc_38 oc_39 oc_40 oc_41 oc_42 oc_43 oc_44 oc_45 oc_46 oc_47 oc_48 oc_49 oc_50 oc_51 oc_52 oc_53 oc_54 oc_55 oc_56 oc_57 oc_58 oc_59 oc_60 oc_61 oc_62 oc_63 oc_64 x.1 (of_decide_eq_true h)) (fun _ _ _ => rfl)
theorem bl_0 : evFn XO 12 (.fn 57) (encAs [.i .u64] ((0 : Int), ())) noHeap 0 (outK XO.P [cI]) = .leaf ((0 : Int), ()) := by kernel_rfl
theorem bl_1 : evFn XO 12 (.fn 57) (encAs [.i .u64] ((1 : Int), ())) noHeap 0 (outK XO.P [cI]) = .leaf ((1 : Int), ()) := by kernel_rfl
theorem bl_2 : evFn XO 12 (.fn 57) (encAs [.i .u64] ((2 : Int), ())) noHeap 0 (outK XO.P [cI]) = .leaf ((2 : Int), ()) := by kernel_rfl
theorem bl_3 : evFn XO 12 (.fn 57) (encAs [.i .u64] ((3 : Int), ())) noHeap 0 (outK XO.P [cI]) = .leaf ((2 : Int), ()) := by kernel_rfl
theorem bl_4 : evFn XO 12 (.fn 57) (encAs [.i .u64] ((4 : Int), ())) noHeap 0 (outK XO.P [cI]) = .leaf ((3 : Int), ()) := by kernel_rfl
theorem bl_5 : evFn XO 12 (.fn 57) (encAs [.i .u64] ((5 : Int), ())) noHeap 0 (outK XO.P [cI]) = .leaf ((3 : Int), ()) := by kernel_rfl
theorem bl_6 : evFn XO 12 (.fn 57) (encAs [.i .u64] ((6 : Int), ())) noHeap 0 (outK XO.P [cI]) = .leaf ((3 : Int), ()) := by kernel_rfl
theorem bl_7 : evFn XO 12 (.fn 57) (encAs [.i .u64] ((7 : Int), ())) noHeap 0 (outK XO.P [cI]) = .leaf ((3 : Int), ()) := by kernel_rfl
theorem bl_8 : evFn XO 12 (.fn 57) (encAs [.i .u64] ((8 : Int), ())) noHeap 0 (outK XO.P [cI]) = .leaf ((4 : Int), ()) := by kernel_rfl
theorem bl_9 : evFn XO 12 (.fn 57) (encAs [.i .u64] ((9 : Int), ())) noHeap 0 (outK XO.P [cI]) = .leaf ((4 : Int), ()) := by kernel_rfl
theorem bl_10 : evFn XO 12 (.fn 57) (encAs [.i .u64] ((10 : Int), ())) noHeap 0 (outK XO.P [cI]) = .leaf ((4 : Int), ()) := by kernel_rfl
theorem bl_11 : evFn XO 12 (.fn 57) (encAs [.i .u64] ((11 : Int), ())) noHeap 0 (outK XO.P [cI]) = .leaf ((4 : Int), ()) := by kernel_rfl
theorem bl_12 : evFn XO 12 (.fn 57) (encAs [.i .u64] ((12 : Int), ())) noHeap 0 (outK XO.P [cI]) = .leaf ((4 : Int), ()) := by kernel_rfl
theorem bl_13 : evFn XO 12 (.fn 57) (encAs [.i .u64] ((13 : Int), ())) noHeap 0 (outK XO.P [cI]) = .leaf ((4 : Int), ()) := by kernel_rfl
theorem bl_14 : evFn XO 12 (.fn 57) (encAs [.i .u64] ((14 : Int), ())) noHeap 0 (outK XO.P [cI]) = .leaf ((4 : Int), ()) := by kernel_rfl
theorem bl_15 : evFn XO 12 (.fn 57) (encAs [.i .u64] ((15 : Int), ())) noHeap 0 (outK XO.P [cI]) = .leaf ((4 : Int), ()) := by kernel_rfl
theorem bl_16 : evFn XO 12 (.fn 57) (encAs [.i .u64] ((16 : Int), ())) noHeap 0 (outK XO.P [cI]) = .leaf ((5 : Int), ()) := by kernel_rfl
theorem bl_17 : evFn XO 12 (.fn 57) (encAs [.i .u64] ((17 : Int), ())) noHeap 0 (outK XO.P [cI]) = .leaf ((5 : Int), ()) := by kernel_rfl
theorem bl_18 : evFn XO 12 (.fn 57) (encAs [.i .u64] ((18 : Int), ())) noHeap 0 (outK XO.P [cI]) = .leaf ((5 : Int), ()) := by kernel_rfl
theorem bl_19 : evFn XO 12 (.fn 57) (encAs [.i .u64] ((19 : Int), ())) noHeap 0 (outK XO.P [cI]) = .leaf ((5 : Int), ()) := by kernel_rfl
theorem bl_20 : evFn XO 12 (.fn 57) (encAs [.i .u64] ((20 : Int), ())) noHeap 0 (outK XO.P [cI]) = .leaf ((5 : Int), ()) := by kernel_rfl
theorem bl_21 : evFn XO 12 (.fn 57) (encAs [.i .u64] ((21 : Int), ())) noHeap 0 (outK XO.P [cI]) = .leaf ((5 : Int), ()) := by kernel_rfl
theorem bl_22 : evFn XO 12 (.fn 57) (encAs [.i .u64] ((22 : Int), ())) noHeap 0 (outK XO.P [cI]) = .leaf ((5 : Int), ()) := by kernel_rfl
theorem bl_23 : evFn XO 12 (.fn 57) (encAs [.i .u64] ((23 : Int), ())) noHeap 0 (outK XO.P [cI]) = .leaf ((5 : Int), ()) := by kernel_rfl
theorem bl_24 : evFn XO 12 (.fn 57) (encAs [.i .u64] ((24 : Int), ())) noHeap 0 (outK XO.P [cI]) = .leaf ((5 : Int), ()) := by kernel_rfl
theorem bl_25 : evFn XO 12 (.fn 57) (encAs [.i .u64] ((25 : Int), ())) noHeap 0 (outK XO.P [cI]) = .leaf ((5 : Int), ()) := by kernel_rfl
theorem bl_26 : evFn XO 12 (.fn 57) (encAs [.i .u64] ((26 : Int), ())) noHeap 0 (outK XO.P [cI]) = .leaf ((5 : Int), ()) := by kernel_rfl
theorem bl_27 : evFn XO 12 (.fn 57) (encAs [.i .u64] ((27 : Int), ())) noHeap 0 (outK XO.P [cI]) = .leaf ((5 : Int), ()) := by kernel_rfl
theorem bl_28 : evFn XO 12 (.fn 57) (encAs [.i .u64] ((28 : Int), ())) noHeap 0 (outK XO.P [cI]) = .leaf ((5 : Int), ()) := by kernel_rfl
theorem bl_29 : evFn XO 12 (.fn 57) (encAs [.i .u64] ((29 : Int), ())) noHeap 0 (outK XO.P [cI]) = .leaf ((5 : Int), ()) := by kernel_rfl
theorem bl_30 : evFn XO 12 (.fn 57) (encAs [.i .u64] ((30 : Int), ())) noHeap 0 (outK XO.P [cI]) = .leaf ((5 : Int), ()) := by kernel_rfl
theorem bl_31 : evFn XO 12 (.fn 57) (encAs [.i .u64] ((31 : Int), ())) noHeap 0 (outK XO.P [cI]) = .leaf ((5 : Int), ()) := by kernel_rfl
theorem bl_32 : evFn XO 12 (.fn 57) (encAs [.i .u64] ((32 : Int), ())) noHeap 0 (outK XO.P [cI]) = .leaf ((6 : Int), ()) := by kernel_rfl
theorem bl_33 : evFn XO 12 (.fn 57) (encAs [.i .u64] ((33 : Int), ())) noHeap 0 (outK XO.P [cI]) = .leaf ((6 : Int), ()) := by kernel_rfl
theorem bl_34 : evFn XO 12 (.fn 57) (encAs [.i .u64] ((34 : Int), ())) noHeap 0 (outK XO.P [cI]) = .leaf ((6 : Int), ()) := by kernel_rfl
theorem bl_35 : evFn XO 12 (.fn 57) (encAs [.i .u64] ((35 : Int), ())) noHeap 0 (outK XO.P [cI]) = .leaf ((6 : Int), ()) := by kernel_rfl
theorem bl_36 : evFn XO 12 (.fn 57) (encAs [.i .u64] ((36 : Int), ())) noHeap 0 (outK XO.P [cI]) = .leaf ((6 : Int), ()) := by kernel_rfl
theorem bl_37 : evFn XO 12 (.fn 57) (encAs [.i .u64] ((37 : Int), ())) noHeap 0 (outK XO.P [cI]) = .leaf ((6 : Int), ()) := by kernel_rfl
theorem bl_38 : evFn XO 12 (.fn 57) (encAs [.i .u64] ((38 : Int), ())) noHeap 0 (outK XO.P [cI]) = .leaf ((6 : Int), ()) := by kernel_rfl
theorem bl_39 : evFn XO 12 (.fn 57) (encAs [.i .u64] ((39 : Int), ())) noHeap 0 (outK XO.P [cI]) = .leaf ((6 : Int), ()) := by kernel_rfl
theorem bl_40 : evFn XO 12 (.fn 57) (encAs [.i .u64] ((40 : Int), ())) noHeap 0 (outK XO.P [cI]) = .leaf ((6 : Int), ()) := by kernel_rfl
theorem bl_41 : evFn XO 12 (.fn 57) (encAs [.i .u64] ((41 : Int), ())) noHeap 0 (outK XO.P [cI]) = .leaf ((6 : Int), ()) := by kernel_rfl
theorem bl_42 : evFn XO 12 (.fn 57) (encAs [.i .u64] ((42 : Int), ())) noHeap 0 (outK XO.P [cI]) = .leaf ((6 : Int), ()) := by kernel_rfl
theorem bl_43 : evFn XO 12 (.fn 57) (encAs [.i .u64] ((43 : Int), ())) noHeap 0 (outK XO.P [cI]) = .leaf ((6 : Int), ()) := by kernel_rfl
theorem bl_44 : evFn XO 12 (.fn 57) (encAs [.i .u64] ((44 : Int), ())) noHeap 0 (outK XO.P [cI]) = .leaf ((6 : Int), ()) := by kernel_rfl
theorem bl_45 : evFn XO 12 (.fn 57) (encAs [.i .u64] ((45 : Int), ())) noHeap 0 (outK XO.P [cI]) = .leaf ((6 : Int), ()) := by kernel_rfl
theorem bl_46 : evFn XO 12 (.fn 57) (encAs [.i .u64] ((46 : Int), ())) noHeap 0 (outK XO.P [cI]) = .leaf ((6 : Int), ()) := by kernel_rfl
theorem bl_47 : evFn XO 12 (.fn 57) (encAs [.i .u64] ((47 : Int), ())) noHeap 0 (outK XO.P [cI]) = .leaf ((6 : Int), ()) := by kernel_rfl
theorem bl_48 : evFn XO 12 (.fn 57) (encAs [.i .u64] ((48 : Int), ())) noHeap 0 (outK XO.P [cI]) = .leaf ((6 : Int), ()) := by kernel_rfl
theorem bl_49 : evFn XO 12 (.fn 57) (encAs [.i .u64] ((49 : Int), ())) noHeap 0 (outK XO.P [cI]) = .leaf ((6 : Int), ()) := by kernel_rfl
theorem bl_50 : evFn XO 12 (.fn 57) (encAs [.i .u64] ((50 : Int), ())) noHeap 0 (outK XO.P [cI]) = .leaf ((6 : Int), ()) := by kernel_rfl
theorem bl_51 : evFn XO 12 (.fn 57) (encAs [.i .u64] ((51 : Int), ())) noHeap 0 (outK XO.P [cI]) = .leaf ((6 : Int), ()) := by kernel_rfl
theorem bl_52 : evFn XO 12 (.fn 57) (encAs [.i .u64] ((52 : Int), ())) noHeap 0 (outK XO.P [cI]) = .leaf ((6 : Int), ()) := by kernel_rfl
theorem bl_53 : evFn XO 12 (.fn 57) (encAs [.i .u64] ((53 : Int), ())) noHeap 0 (outK XO.P [cI]) = .leaf ((6 : Int), ()) := by kernel_rfl
theorem bl_54 : evFn XO 12 (.fn 57) (encAs [.i .u64] ((54 : Int), ())) noHeap 0 (outK XO.P [cI]) = .leaf ((6 : Int), ()) := by kernel_rfl
theorem bl_55 : evFn XO 12 (.fn 57) (encAs [.i .u64] ((55 : Int), ())) noHeap 0 (outK XO.P [cI]) = .leaf ((6 : Int), ()) := by kernel_rfl
theorem bl_56 : evFn XO 12 (.fn 57) (encAs [.i .u64] ((56 : Int), ())) noHeap 0 (outK XO.P [cI]) = .leaf ((6 : Int), ()) := by kernel_rfl
theorem bl_57 : evFn XO 12 (.fn 57) (encAs [.i .u64] ((57 : Int), ())) noHeap 0 (outK XO.P [cI]) = .leaf ((6 : Int), ()) := by kernel_rfl
theorem bl_58 : evFn XO 12 (.fn 57) (encAs [.i .u64] ((58 : Int), ())) noHeap 0 (outK XO.P [cI]) = .leaf ((6 : Int), ()) := by kernel_rfl
theorem bl_59 : evFn XO 12 (.fn 57) (encAs [.i .u64] ((59 : Int), ())) noHeap 0 (outK XO.P [cI]) = .leaf ((6 : Int), ()) := by kernel_rfl
theorem bl_60 : evFn XO 12 (.fn 57) (encAs [.i .u64] ((60 : Int), ())) noHeap 0 (outK XO.P [cI]) = .leaf ((6 : Int), ()) := by kernel_rfl
theorem bl_61 : evFn XO 12 (.fn 57) (encAs [.i .u64] ((61 : Int), ())) noHeap 0 (outK XO.P [cI]) = .leaf ((6 : Int), ()) := by kernel_rfl
theorem bl_62 : evFn XO 12 (.fn 57) (encAs [.i .u64] ((62 : Int), ())) noHeap 0 (outK XO.P [cI]) = .leaf ((6 : Int), ()) := by kernel_rfl
theorem bl_63 : evFn XO 12 (.fn 57) (encAs [.i .u64] ((63 : Int), ())) noHeap 0 (outK XO.P [cI]) = .leaf ((6 : Int), ()) := by kernel_rfl
theorem bl_64 : evFn XO 12 (.fn 57) (encAs [.i .u64] ((64 : Int), ())) noHeap 0 (outK XO.P [cI]) = .leaf ((7 : Int), ()) := by kernel_rfl
theorem bl_all (T : Int → Tree (TCTs [cI])) (h0 : T 0 = .leaf ((0 : Int), ())) (h1 : T 1 = .leaf ((1 : Int), ())) (h2 : T 2 = .leaf ((2 : Int), ())) (h3 : T 3 = .leaf ((2 : Int), ())) (h4 : T 4 = .leaf ((3 : Int), ())) (h5 : T 5 = .leaf ((3 : Int), ())) (h6 : T 6 = .leaf ((3 : Int), ())) (h7 : T 7 = .leaf ((3 : Int), ())) (h8 : T 8 = .leaf ((4 : Int), ())) (h9 : T 9 = .leaf ((4 : Int), ())) (h10 : T 10 = .leaf ((4 : Int), ())) (h11 : T 11 = .leaf ((4 : Int), ())) (h12 : T 12 = .leaf ((4 : Int), ())) (h13 : T 13 = .leaf ((4 : Int), ())) (h14 : T 14 = .leaf ((4 : Int), ())) (h15 : T 15 = .leaf ((4 : Int), ())) (h16 : T 16 = .leaf ((5 : Int), ())) (h17 : T 17 = .leaf ((5 : Int), ())) (h18 : T 18 = .leaf ((5 : Int), ())) (h19 : T 19 = .leaf ((5 : Int), ())) (h20 : T 20 = .leaf ((5 : Int), ())) (h21 : T 21 = .leaf ((5 : Int), ())) (h22 : T 22 = .leaf ((5 : Int), ())) (h23 : T 23 = .leaf ((5 : Int), ())) (h24 : T 24 = .leaf ((5 : Int), ())) (h25 : T 25 = .leaf ((5 : Int), ())) (h26 : T 26 = .leaf ((5 : Int), ())) (h27 : T 27 = .leaf ((5 : Int), ())) (h28 : T 28 = .leaf ((5 : Int), ())) (h29 : T 29 = .leaf ((5 : Int), ())) (h30 : T 30 = .leaf ((5 : Int), ())) (h31 : T 31 = .leaf ((5 : Int), ())) (h32 : T 32 = .leaf ((6 : Int), ())) (h33 : T 33 = .leaf ((6 : Int), ())) (h34 : T 34 = .leaf ((6 : Int), ())) (h35 : T 35 = .leaf ((6 : Int), ())) (h36 : T 36 = .leaf ((6 : Int), ())) (h37 : T 37 = .leaf ((6 : Int), ())) (h38 : T 38 = .leaf ((6 : Int), ())) (h39 : T 39 = .leaf ((6 : Int), ())) (h40 : T 40 = .leaf ((6 : Int), ())) (h41 : T 41 = .leaf ((6 : Int), ())) (h42 : T 42 = .leaf ((6 : Int), ())) (h43 : T 43 = .leaf ((6 : Int), ())) (h44 : T 44 = .leaf ((6 : Int), ())) (h45 : T 45 = .leaf ((6 : Int), ())) (h46 : T 46 = .leaf ((6 : Int), ())) (h47 : T 47 = .leaf ((6 : Int), ())) (h48 : T 48 = .leaf ((6 : Int), ())) (h49 : T 49 = .leaf ((6 : Int), ())) (h50 : T 50 = .leaf ((6 : Int), ())) (h51 : T 51 = .leaf ((6 : Int), ())) (h52 : T 52 = .leaf ((6 : Int), ())) (h53 : T 53 = .leaf ((6 : Int), ())) (h54 : T 54 = .leaf ((6 : Int), ())) (h55 : T 55 = .leaf ((6 : Int), ())) (h56 : T 56 = .leaf ((6 : Int), ())) (h57 : T 57 = .leaf ((6 : Int), ())) (h58 : T 58 = .leaf ((6 : Int), ())) (h59 : T 59 = .leaf ((6 : Int), ())) (h60 : T 60 = .leaf ((6 : Int), ())) (h61 : T 61 = .leaf ((6 : Int), ())) (h62 : T 62 = .leaf ((6 : Int), ())) (h63 : T 63 = .leaf ((6 : Int), ())) (h64 : T 64 = .leaf ((7 : Int), ())) (n : Int) (h : 0 ≤ n ∧ n ≤ 64) : T n = .leaf (blF n.toNat, ()) := by
  obtain rfl | rfl | rfl | rfl | rfl | rfl | rfl | rfl | rfl | rfl | rfl | rfl | rfl | rfl | rfl | rfl | rfl | rfl | rfl | rfl | rfl | rfl | rfl | rfl | rfl | rfl | rfl | rfl | rfl | rfl | rfl | rfl | rfl | rfl | rfl | rfl | rfl | rfl | rfl | rfl | rfl | rfl | rfl | rfl | rfl | rfl | rfl | rfl | rfl | rfl | rfl | rfl | rfl | rfl | rfl | rfl | rfl | rfl | rfl | rfl | rfl | rfl | rfl | rfl | rfl : n = 0 ∨ n = 1 ∨ n = 2 ∨ n = 3 ∨ n = 4 ∨ n = 5 ∨ n = 6 ∨ n = 7 ∨ n = 8 ∨ n = 9 ∨ n = 10 ∨ n = 11 ∨ n = 12 ∨ n = 13 ∨ n = 14 ∨ n = 15 ∨ n = 16 ∨ n = 17 ∨ n = 18 ∨ n = 19 ∨ n = 20 ∨ n = 21 ∨ n = 22 ∨ n = 23 ∨ n = 24 ∨ n = 25 ∨ n = 26 ∨ n = 27 ∨ n = 28 ∨ n = 29 ∨ n = 30 ∨ n = 31 ∨ n = 32 ∨ n = 33 ∨ n = 34 ∨ n = 35 ∨ n = 36 ∨ n = 37 ∨ n = 38 ∨ n = 39 ∨ n = 40 ∨ n = 41 ∨ n = 42 ∨ n = 43 ∨ n = 44 ∨ n = 45 ∨ n = 46 ∨ n = 47 ∨ n = 48 ∨ n = 49 ∨ n = 50 ∨ n = 51 ∨ n = 52 ∨ n = 53 ∨ n = 54 ∨ n = 55 ∨ n = 56 ∨ n = 57 ∨ n = 58 ∨ n = 59 ∨ n = 60 ∨ n = 61 ∨ n = 62 ∨ n = 63 ∨ n = 64 := by omega
  · exact h0
  · exact h1
  · exact h2
  · exact h3
  · exact h4
  · exact h5
  · exact h6
  · exact h7
  · exact h8
  · exact h9
  · exact h10
  · exact h11
  · exact h12
  · exact h13
  · exact h14
  · exact h15
  · exact h16
  · exact h17
  · exact h18
  · exact h19
  · exact h20
  · exact h21
  · exact h22
  · exact h23
  · exact h24
  · exact h25
  · exact h26
  · exact h27
  · exact h28
  · exact h29
  · exact h30
  · exact h31
  · exact h32
  · exact h33
  · exact h34
  · exact h35
  · exact h36
  · exact h37
  · exact h38
  · exact h39
  · exact h40
  · exact h41
  · exact h42
  · exact h43
  · exact h44
  · exact h45
  · exact h46
  · exact h47
  · exact h48
  · exact h49
  · exact h50
  · exact h51
  · exact h52
  · exact h53
  · exact h54
  · exact h55
  · exact h56
  · exact h57
  · exact h58
  · exact h59
  · exact h60
  · exact h61
  · exact h62
  · exact h63
  · exact h64
abbrev s_bl : PureT := spec [.i .u64] [cI] (fun x => decide (0 ≤ x.1 ∧ x.1 ≤ 64)) (fun x => (blF x.1.toNat, ()))
theorem q_bl : PureOk Try.prog 57 s_bl := q_by2 XO_ok 12 (fun x => evFn XO 12 (.fn 57) (encAs [.i .u64] x) noHeap 0 (outK XO.P [cI])) (fun x => .leaf (blF x.1.toNat, ())) (fun _ => rfl) (fun x h => bl_all (fun n => evFn XO 12 (.fn 57) (encAs [.i .u64] (n, ())) noHeap 0 (outK XO.P [cI])) bl_0 bl_1 bl_2 bl_3 bl_4 bl_5 bl_6 bl_7 bl_8 bl_9 bl_10 bl_11 bl_12 bl_13 bl_14 bl_15 bl_16 bl_17 bl_18 bl_19 bl_20 bl_21 bl_22 bl_23 bl_24 bl_25 bl_26 bl_27 bl_28 bl_29 bl_30 bl_31 bl_32 bl_33 bl_34 bl_35 bl_36 bl_37 bl_38 bl_39 bl_40 bl_41 bl_42 bl_43 bl_44 bl_45 bl_46 bl_47 bl_48 bl_49 bl_50 bl_51 bl_52 bl_53 bl_54 bl_55 bl_56 bl_57 bl_58 bl_59 bl_60 bl_61 bl_62 bl_63 bl_64 x.1 (of_decide_eq_true h)) (fun _ _ _ => rfl)
end Ev
end V
end Go.Proofs.Ytgchccljmjmibaa
/-! Chapter 11: draws that are valid: loops. -/
namespace Go.Proofs.Ytgchccljmjmibaa
open Go.RowKit
namespace V
namespace Ev
theorem is_power : FnIs Try.prog (60, Try.f60) := ⟨Try.func60, by kernel_rfl, by kernel_rfl⟩
theorem is_OnesCount : FnIs Try.prog (58, Try.f58) := ⟨Try.func58, by kernel_rfl, by kernel_rfl⟩
theorem is_bLen : FnIs Try.prog (57, Try.f57) := ⟨Try.func57, by kernel_rfl, by kernel_rfl⟩
theorem is_rfind : FnIs Try.prog (62, Try.f62) := ⟨Try.func62, by kernel_rfl, by kernel_rfl⟩
theorem is_eCD : FnIs Try.prog (21, Try.f21) := ⟨Try.func21, by kernel_rfl, by kernel_rfl⟩
theorem is_rCD : FnIs Try.prog (26, Try.f26) := ⟨Try.func26, by kernel_rfl, by kernel_rfl⟩
/-- a power of two, up to 64 -/
def powB (n : Int) : Bool := n == 1 || (n == 2 || (n == 4 || (n == 8 || (n == 16 || (n == 32 || n == 64)))))
abbrev s_pow : PureT := spec [cI] [.b] (fun _ => true) (fun x => (powB x.1, ()))
def T_pow (n : Int) : TBo := orT (n == 1) (orT (n == W64 (2 * 1)) (orT (n == W64 (2 * W64 (2 * 1))) (orT (n == W64 (2 * W64 (2 * W64 (2 * 1)))) (orT (n == W64 (2 * W64 (2 * W64 (2 * W64 (2 * 1))))) (orT (n == W64 (2 * W64 (2 * W64 (2 * W64 (2 * W64 (2 * 1)))))) (bif n == W64 (2 * W64 (2 * W64 (2 * W64 (2 * W64 (2 * W64 (2 * 1)))))) then .leaf (true, ()) else .leaf (false, ())))))))
theorem T_pow_ok (n : Int) : (T_pow n).sat (fun y => y = (powB n, ())) := by
  refine orT_ok (orT_ok (orT_ok (orT_ok (orT_ok (orT_ok (b := n == 64) ?_)))))
  show (bif n == 64 then .leaf (true, ()) else .leaf (false, ()) : TBo).sat _
  cases n == 64 <;> exact rfl
theorem q_pow : PureOk Try.prog 60 s_pow := q_by (ctxU_ok (u := 12) mixed puOk_nil (fns_cons is_power fns_nil)) 3 (fun x => T_pow x.1) (fun x => by kernel_rfl) fun x _ _ => T_pow_ok x.1
noncomputable def plDr : List (Nat × PureT) := [(58, s_oc), (60, s_pow)]
theorem puDr : PuOk Try.prog plDr := puOk_cons is_OnesCount.plain q_oc (puOk_cons is_power.plain q_pow puOk_nil)
noncomputable def XDr : Ctx := ctx Try.prog plDr []
theorem XDr_ok : CtxOk XDr := ctx_ok mixed puDr fns_nil
noncomputable def lb_cd : Code := (loopsOf (bodyOf Try.f21)).getD 0 .skip
def L_cd : Lay := { keys := [0, 4, 20, 21, 22], ks := [.d (.sl cI), .q 0, .d (.sl cI), .d cI, .d cI], bs := [(0, 0, [.m cI cI])], n := 56, nx := 1000, marks := [] }
def R_cd : Lay := { keys := [], ks := [], bs := [], n := 56, nx := 1000, marks := [] }
def Rt_cd : Lay := { keys := [2], ks := [.d cI], bs := [], n := 56, nx := 1000, marks := [] }
def E_cd : XE → Lay := fun e => match e with | .ret => Rt_cd | _ => R_cd
abbrev cCd := L_cd.T ⊕ Left' E_cd
noncomputable def lb_fi : Code := (loopsOf (bodyOf Try.f62)).getD 0 .skip
def L_fi : Lay := { keys := [0, 1, 5], ks := [.d (.sl cI), .d cI, .d cI], bs := [], n := 23, nx := 1000, marks := [] }
def R_fi : Lay := { keys := [], ks := [], bs := [], n := 23, nx := 1000, marks := [] }
def Rt_fi : Lay := { keys := [4], ks := [.d cI], bs := [], n := 23, nx := 1000, marks := [] }
def E_fi : XE → Lay := fun e => match e with | .ret => Rt_fi | _ => R_fi
abbrev cFi := L_fi.T ⊕ Left' E_fi
/-- a map with one entry turned -/
def upd {β : Type} (m : Int → Option β) (k : Int) (v : β) : Int → Option β := fun j => bif beqD cI j k then some v else m j
def xor1 (i : Int) : Int := W64 ↑(BitVec.toNat (BitVec.ofInt (IntKind.bits .i64) i ^^^ BitVec.ofInt (IntKind.bits .i64) 1))
def rt_cd : Left' E_cd := ⟨.ret, ((2, ()), ())⟩
def ex_cd : Left' E_cd := ⟨.exit 0, ((), ())⟩
def hd_cd (l : List Int) (n i : Int) (m : Int → Option Int) : L_cd.T := ((l, (), l, n, i, ()), (m, ()), ())
def nx_cd (m : Int → Option Int) (p : Int) : Int → Option Int := upd m p (W64 ((m p).getD 0 + 1))
def pa_cd (l l2 : List Int) (n i p : Int) (m : Int → Option Int) : Tree cCd := bif p == -1 then inN l.length (xor1 i) (bif getA l (Int.toNat (xor1 i)) (dflt cI) == -1 then .leaf (.inr rt_cd) else .leaf (.inl ((l, (), l2, n, W64 (i + 1), ()), (nx_cd m p, ()), ()))) else .leaf (.inl ((l, (), l2, n, W64 (i + 1), ()), (nx_cd m p, ()), ()))
def bd_cd (l l2 : List Int) (n i p : Int) (m : Int → Option Int) : Tree cCd := bif decide (p < -1) then .leaf (.inr rt_cd) else bif decide (p > 1000) then .leaf (.inr rt_cd) else bif p != -1 then (bif decide ((nx_cd m p p).getD 0 > 1) then .leaf (.inr rt_cd) else pa_cd l l2 n i p m) else pa_cd l l2 n i p m
def sm_cd (l l2 : List Int) (n i : Int) (m : Int → Option Int) : Tree cCd := bif decide (i < n) then inN l2.length i (bd_cd l l2 n i (getA l2 (Int.toNat i) (dflt cI)) m) else .leaf (.inr ex_cd)
def st_cd (g : L_cd.T) : Tree cCd := sm_cd g.1.1 g.1.2.2.1 g.1.2.2.2.1 g.1.2.2.2.2.1 g.2.1.1
def fu_cd (g : L_cd.T) : Nat := (g.1.1 : List Int).length + 1
theorem e_cd (g : L_cd.T) : evC Try.prog (evFn XDr 6) XDr.pures 21 XDr.u (fun _ => none) lb_cd (L_cd.of g) (stepOut L_cd E_cd) = st_cd g := by kernel_rfl
def rt_fi (i : Int) : Left' E_fi := ⟨.ret, ((i, ()), ())⟩
def ex_fi : Left' E_fi := ⟨.exit 0, ((), ())⟩
def hd_fi (l : List Int) (p i : Int) : L_fi.T := ((l, p, i, ()), ())
def sm_fi (l : List Int) (p i : Int) : Tree cFi := bif decide (i < (l.length : Int)) then inN l.length i (bif getA l (Int.toNat i) (dflt cI) == p then bif p != -1 then .leaf (.inr (rt_fi i)) else .leaf (.inl (hd_fi l p (W64 (i + 1)))) else .leaf (.inl (hd_fi l p (W64 (i + 1))))) else .leaf (.inr ex_fi)
def st_fi (g : L_fi.T) : Tree cFi := sm_fi g.1.1 g.1.2.1 g.1.2.2.1
def fu_fi (g : L_fi.T) : Nat := (g.1.1 : List Int).length + 1
theorem e_fi (g : L_fi.T) : evC Try.prog (evFn XDr 6) XDr.pures 62 XDr.u (fun _ => none) lb_fi (L_fi.of g) (stepOut L_fi E_fi) = st_fi g := by kernel_rfl
/-- the slot of a player -/
def fiB (p x : Int) : Bool := (x == p) && (p != -1)
def fiV (l : List Int) (p : Int) : Int := bif l.any (fiB p) then (l.findIdx (fiB p) : Int) else -1
theorem find_run (l : List Int) (p : Int) (hl : (l.length : Int) ≤ maxK .i64) : iter st_fi (l.length + 1) (hd_fi l p 0) = some (bif l.any (fiB p) then rt_fi (l.findIdx (fiB p) : Nat) else ex_fi) := by
  have hl' : (l.length : Int) ≤ 9223372036854775807 := hl
  refine iter_find (st := st_fi) l (fun i => hd_fi l p i) (fiB p) (fun i => rt_fi (i : Int)) ex_fi (fun i hi => ?_) ?_
  · show (sm_fi l p i).run = _
    unfold sm_fi inN
    rw [decide_eq_true (show (i : Int) < (l.length : Int) by omega), decide_eq_true (show 0 ≤ (i : Int) ∧ (i : Int) < (l.length : Int) by omega), show Int.toNat (i : Int) = i by omega, getA_lt hi, W64_id (n := (i : Int) + 1) (by omega) (by omega)]
    unfold fiB
    cases l[i] == p <;> cases p != -1 <;> rfl
  · show (sm_fi l p l.length).run = _
    unfold sm_fi
    rw [decide_eq_false (show ¬ (l.length : Int) < (l.length : Int) by omega)]
    rfl
abbrev s_find : PureT := spec [.sl cI, cI] [cI] (fun _ => true) (fun x => (fiV x.1 x.2.1, ()))
noncomputable def X_fi : Ctx := ctxL Try.prog plDr [(62, Try.f62)] [((62, 2), loopSum L_fi E_fi (finX [.ret, .exit 0] st_fi fu_fi))]
theorem X_fi_ok : CtxOk X_fi := ctxL_ok mixed puDr (fns_cons is_rfind fns_nil) (loops_one (lb := lb_fi) (k := 2) (by kernel_rfl) (by kernel_rfl) (loopOk_x0 XDr_ok 6 _ L_fi E_fi (fun e => by cases e <;> exact Nat.le_refl _) [.ret, .exit 0] _ fu_fi e_fi))
def T_fi (y : Option (Left' E_fi)) : Tree (TCTs [cI]) := bif isE .ret y then .leaf ((valE .ret y).1.1, ()) else bif isE (.exit 0) y then .leaf (-1, ()) else .fail
theorem q_find : PureOk Try.prog 62 s_find := q_by X_fi_ok 6 (fun x => T_fi (iter st_fi (x.1.length + 1) (hd_fi x.1 x.2.1 0))) (fun x => by kernel_rfl) fun x _ hw => by
  show (T_fi (iter st_fi (x.1.length + 1) (hd_fi x.1 x.2.1 0))).sat _
  rw [find_run x.1 x.2.1 hw.1.1]
  unfold fiV
  cases x.1.any (fiB x.2.1) <;> exact rfl
end Ev
end V
end Go.Proofs.Ytgchccljmjmibaa
