/- Lists of chances: all of them, any of them. -/
import Derived.Test.YtialgmhhkbdegaaGreatGa
namespace Go.Proofs.YtialgmhhkbdegaaGreat
open Go.RowKit
namespace V
def plBad : List (Nat × PureT) := [(39, s_bad)]
theorem puBad : PuOk Tryz.prog plBad := puOk_cons is_bad.plain q_bad puOk_nil

/-! Bad: a list has an element of a kind -/
theorem is_ixBad : FnIs Tryz.prog (57, Tryz.f57) := ⟨Tryz.func57, by kernel_rfl, by kernel_rfl⟩
theorem is_cfBad : FnIs Tryz.prog (38, Tryz.f38) := ⟨Tryz.func38, by kernel_rfl, by kernel_rfl⟩
abbrev ck_Bad : List SK := []
def p_Bad (_k : SKTs ck_Bad) (x : TCT (cC)) : Bool := !validC (un x)
noncomputable def lb_ixBad : Code := (loopsOf (bodyOf Tryz.f57)).getD 0 .skip
def L_ixBad : Lay := { keys := [0, 1, 7, 8], ks := [.d (.sl (cC)), .f 39 [] ck_Bad, .d cI, .d cI], bs := [], n := 19, nx := 1000, marks := [] }
def Rr_ixBad : Lay := { keys := [4], ks := [.d cI], bs := [], n := 19, nx := 1000, marks := [] }
def Re_ixBad : Lay := { keys := [], ks := [], bs := [], n := 19, nx := 1000, marks := [] }
def E_ixBad : XE → Lay
  | .ret => Rr_ixBad
  | _ => Re_ixBad
def hd_ixBad (k : SKTs ck_Bad) (l : List (TCT (cC))) (n i : Int) : L_ixBad.T := ((l, ((), k), n, i, ()), ())
def r_ixBad (i : Int) : Left' E_ixBad := ⟨.ret, ((i, ()), ())⟩
def e_ixBad : Left' E_ixBad := ⟨.exit 0, ((), ())⟩
def body_ixBad (k : SKTs ck_Bad) (l : List (TCT (cC))) (n : Int) (x : TCT (cC)) (i : Int) : Tree (L_ixBad.T ⊕ Left' E_ixBad) := bif p_Bad k x then .leaf (.inr (r_ixBad i)) else .leaf (.inl (hd_ixBad k l n (W64 (i + 1))))
def st_ixBad (k : SKTs ck_Bad) (l : List (TCT (cC))) (n i : Int) : Tree (L_ixBad.T ⊕ Left' E_ixBad) :=
  bif decide (i < n) then bif decide (0 ≤ i ∧ i < (l.length : Int)) then body_ixBad k l n (getA l i.toNat (dflt (cC))) i else .fail else .leaf (.inr e_ixBad)
def fin_ixBad (g : L_ixBad.T) : Tree (Left' E_ixBad) :=
  .br (atHead g.1.2.2.1 g.1.2.2.2.1 g.1.1) (.br (g.1.1.any (p_Bad g.1.2.1.2)) (.leaf (r_ixBad (g.1.1.findIdx (p_Bad g.1.2.1.2)))) (.leaf e_ixBad)) .fail
theorem l_ixBad : LoopOk Tryz.prog 57 lb_ixBad (loopSum L_ixBad E_ixBad fin_ixBad) := by
  refine loopOk_of (X := ctx Tryz.prog plBad []) (ctx_ok mixed puBad fns_nil) 7 57 (fun _ => none) (fun _ _ f h => by simp at h) L_ixBad E_ixBad (fun e => by cases e <;> exact Nat.le_refl _) fin_ixBad (fun g => st_ixBad g.1.2.1.2 g.1.1 g.1.2.2.1 g.1.2.2.2.1) (fun g => by kernel_rfl) ?_
  rintro ⟨⟨l, ⟨⟨⟩, k⟩, n, i, ⟨⟩⟩, ⟨⟩⟩ R hw hf
  obtain ⟨hf, h0⟩ := hf
  by_cases hc : n = (l.length : Int) ∧ i = 0
  · obtain ⟨rfl, rfl⟩ := hc
    have hf := hf (decide_eq_true ⟨rfl, rfl⟩)
    refine forL l (dflt (cC)) (wfl_len hw.1.1) (fun n i _ => hd_ixBad k l n i) (fun x i (_ : Unit) => bif p_Bad k x then .inr (r_ixBad i) else .inl ()) (fun _ => e_ixBad) (fun _ => True) (fun x i _ => body_ixBad k l l.length x i) (fun i _ => rfl) ?_ () trivial ?_
    · intro i _ hi Q _ _ hw1 hQ
      show (body_ixBad k l l.length l[i] i).sat Q
      unfold body_ixBad
      rw [hw1]
      cases hp : p_Bad k l[i] with
      | true => rw [hp] at hQ; exact hQ
      | false => rw [hp] at hQ; exact hQ trivial
    · rw [run_any (p_Bad k) (fun i => r_ixBad i) e_ixBad l 0, Nat.zero_add]
      cases ha : l.any (p_Bad k) with
      | true => exact hf.1 ha
      | false => exact hf.2 ha
  · exact (h0 (decide_eq_false hc)).elim
abbrev s_ixBad : PureT := kspec [.d (.sl (cC)), .f 39 [] ck_Bad] [cI] (fun _ => true) (fun x => (bif x.1.any (p_Bad x.2.1.2) then (x.1.findIdx (p_Bad x.2.1.2) : Int) else -1, ()))
noncomputable def X_ixBad : Ctx := ctxL Tryz.prog plBad [(57, Tryz.f57)] [((57, keyOf lb_ixBad), loopSum L_ixBad E_ixBad fin_ixBad)]
theorem X_ixBad_ok : CtxOk X_ixBad := ctxL_ok mixed puBad (fns_cons is_ixBad fns_nil) (loops_one rfl (by kernel_rfl) l_ixBad)
def T_ixBad (k : SKTs ck_Bad) (l : List (TCT (cC))) : Tree (Int × Unit) := bif atHead (l.length : Int) 0 l then bif l.any (p_Bad k) then .leaf ((l.findIdx (p_Bad k) : Int), ()) else .leaf (-1, ()) else .fail
theorem T_ixBad_ok (k : SKTs ck_Bad) (l : List (TCT (cC))) : (T_ixBad k l).sat (fun y => y = (bif l.any (p_Bad k) then (l.findIdx (p_Bad k) : Int) else -1, ())) := by
  refine sat_must (decide_eq_true ⟨rfl, rfl⟩) ?_
  cases l.any (p_Bad k) <;> exact rfl
theorem q_ixBad : PureOk Tryz.prog 57 s_ixBad := kq_by X_ixBad_ok 8 (fun x => T_ixBad x.2.1.2 x.1) (fun x => by kernel_rfl) fun x _ _ => T_ixBad_ok _ _
abbrev s_cfBad : PureT := kspec [.d (.sl (cC)), .f 39 [] ck_Bad] [.b] (fun _ => true) (fun x => (x.1.any (p_Bad x.2.1.2), ()))
theorem any_idxBad (k : SKTs ck_Bad) (l : List (TCT (cC))) : (Tree.leaf (decide ((bif l.any (p_Bad k) then (l.findIdx (p_Bad k) : Int) else -1) ≥ 0), ()) : Tree (Bool × Unit)).sat (fun y => y = (l.any (p_Bad k), ())) := by
  rw [any_idx]; exact rfl
theorem q_cfBad : PureOk Tryz.prog 38 s_cfBad := kq_by (ctx_ok mixed (puOk_cons is_ixBad.plain q_ixBad puOk_nil) (fns_cons is_cfBad fns_nil)) 8 (fun x => .leaf (decide ((bif x.1.any (p_Bad x.2.1.2) then (x.1.findIdx (p_Bad x.2.1.2) : Int) else -1) ≥ 0), ())) (fun x => by kernel_rfl) fun x _ _ => any_idxBad _ _
end V
end Go.Proofs.YtialgmhhkbdegaaGreat
