/- The board and the scene by small numbers. -/
import Derived.Test.YtialgmhhkbdegaaGreatYb
namespace Go.Proofs.YtialgmhhkbdegaaGreat
open Go.RowKit
namespace V
abbrev cu8 : TC := .i .u8
abbrev cu16 : TC := .i .u16
abbrev cu3 : TC := .st [cu16, cu16, cu16]
abbrev cu6 : TC := .st [cu16, cu16, cu16, cu16, cu16, cu16]
abbrev cCo : TC := .st [.sl cu8, cu3, cu3, cu6, cu8, cu8, cu8, cu8, .b, .b, .b, .b]
theorem is_board : FnIs Tryz.prog (5, Tryz.f5) := ⟨Tryz.func5, by kernel_rfl, by kernel_rfl⟩
def bnd (x y : Int) : TCT cC := (W64 (Int.tdiv (W64 (W64 x * 1000000)) 65535), min 1000000 (W64 (W64 (Int.tdiv (W64 (W64 x * 1000000)) 65535) + W64 y)), ())
def hs1 (n x : Int) : Int := Int.tmod (W64 x) n
/-- the hoops: at most three, or one -/
def hsF (n : Int) : List Int → List Int
  | [] => [0]
  | [a] => [hs1 n a]
  | [a, b] => [hs1 n a, hs1 n b]
  | a :: b :: c :: _ => [hs1 n a, hs1 n b, hs1 n c]
def boB (wd : Int) (hs : List Int) (r t : TCT cu3) (m : TCT cu6) : TCT cB := (2, wd, hs, (bnd r.1 m.1, bnd r.2.1 m.2.1, bnd r.2.2.1 m.2.2.1, ()), (bnd t.1 m.2.2.2.1, bnd t.2.1 m.2.2.2.2.1, bnd t.2.2.1 m.2.2.2.2.2.1, ()), ())
def boS (n : Int) (hs : List Int) (a h p q : Int) (da db ob : Bool) : TCT cSc := (hs1 n a, Int.tmod (W64 h) (W64 ((hs.length : Int) + 1)), bif !ob then [hs1 n p, hs1 n q] else [hs1 n p], bif !ob then [da, db] else [da], ())
def TBo := Tree (TCTs [cB, cSc])
def kBo (n wd : Int) (r t : TCT cu3) (m : TCT cu6) (a h p q : Int) (da db ob : Bool) (hs : List Int) : Tree (TCTs [cB, cSc]) :=
  bif !ob then .leaf (boB wd hs r t m, (hs1 n a, Int.tmod (W64 h) (W64 ((hs.length : Int) + 1)), [hs1 n p, hs1 n q], [da, db], ()), ()) else .leaf (boB wd hs r t m, (hs1 n a, Int.tmod (W64 h) (W64 ((hs.length : Int) + 1)), [hs1 n p], [da], ()), ())
def upto3 {β : Type} (n : Int) (hs : List Int) (k : List Int → Tree β) : Tree β :=
  bif decide ((0 : Int) < hs.length) then bif decide ((0 : Int) ≤ 0 ∧ (0 : Int) < hs.length) then
    bif decide ((1 : Int) < hs.length) then bif decide ((0 : Int) ≤ 1 ∧ (1 : Int) < hs.length) then
      bif decide ((2 : Int) < hs.length) then bif decide ((0 : Int) ≤ 2 ∧ (2 : Int) < hs.length) then
        bif decide ((3 : Int) < hs.length) then k [hs1 n (getA hs 0 0), hs1 n (getA hs 1 0), hs1 n (getA hs 2 0)] else k [hs1 n (getA hs 0 0), hs1 n (getA hs 1 0), hs1 n (getA hs 2 0)]
      else .fail else k [hs1 n (getA hs 0 0), hs1 n (getA hs 1 0)]
    else .fail else k [hs1 n (getA hs 0 0)]
  else .fail else k [0]
def T_bo (hs : List Int) (r t : TCT cu3) (m : TCT cu6) (a h p q : Int) (da db ob w : Bool) : Tree (TCTs [cB, cSc]) :=
  bif w then upto3 4 hs (kBo 4 2 r t m a h p q da db ob) else upto3 2 hs (kBo 2 1 r t m a h p q da db ob)
theorem T_bo_eq (hs : List Int) (r t : TCT cu3) (m : TCT cu6) (a h p q : Int) (da db ob w : Bool) :
    evFn (ctxU 4 Tryz.prog [] allT) 40 (.fn 5) [encA cCo (hs, r, t, m, a, h, p, q, da, db, ob, w, ())] noHeap 0 (outK Tryz.prog [cB, cSc]) = T_bo hs r t m a h p q da db ob w := by kernel_rfl
theorem upto3_eq {β : Type} (n : Int) (k : List Int → Tree β) : ∀ hs : List Int, upto3 n hs k = k (hsF n hs)
  | [] => rfl
  | [a] => rfl
  | [a, b] => rfl
  | [a, b, c] => rfl
  | a :: b :: c :: d :: l => by
    have e : ((a :: b :: c :: d :: l).length : Int) = l.length + 4 := by simp only [List.length_cons]; omega
    unfold upto3
    rw [e, decide_eq_true (show (0 : Int) < l.length + 4 by omega), decide_eq_true (show (0 : Int) ≤ 0 ∧ (0 : Int) < l.length + 4 by omega), decide_eq_true (show (1 : Int) < l.length + 4 by omega), decide_eq_true (show (0 : Int) ≤ 1 ∧ (1 : Int) < l.length + 4 by omega),
      decide_eq_true (show (2 : Int) < l.length + 4 by omega), decide_eq_true (show (0 : Int) ≤ 2 ∧ (2 : Int) < l.length + 4 by omega), decide_eq_true (show (3 : Int) < l.length + 4 by omega)]
    rfl
def boF (hs : List Int) (r t : TCT cu3) (m : TCT cu6) (a h p q : Int) (da db ob w : Bool) : TCT cB × TCT cSc :=
  (boB (bif w then 2 else 1) (hsF (bif w then 4 else 2) hs) r t m, boS (bif w then 4 else 2) (hsF (bif w then 4 else 2) hs) a h p q da db ob)
theorem T_bo_ok (hs : List Int) (r t : TCT cu3) (m : TCT cu6) (a h p q : Int) (da db ob w : Bool) : T_bo hs r t m a h p q da db ob w = .leaf ((boF hs r t m a h p q da db ob w).1, (boF hs r t m a h p q da db ob w).2, ()) := by
  unfold T_bo boF
  cases w <;> simp only [cond_true, cond_false, upto3_eq] <;> unfold kBo boS <;> cases ob <;> rfl
/-- the board and the scene of a Coarse -/
def bF (c : TCT cCo) : TCT cB × TCT cSc := boF c.1 c.2.1 c.2.2.1 c.2.2.2.1 c.2.2.2.2.1 c.2.2.2.2.2.1 c.2.2.2.2.2.2.1 c.2.2.2.2.2.2.2.1 c.2.2.2.2.2.2.2.2.1 c.2.2.2.2.2.2.2.2.2.1 c.2.2.2.2.2.2.2.2.2.2.1 c.2.2.2.2.2.2.2.2.2.2.2.1
def mkB (b : TCT cB) : TCT cB := (b.1, b.2.1, b.2.2.1, ((b.2.2.2.1.1.1, b.2.2.2.1.1.2.1, ()), (b.2.2.2.1.2.1.1, b.2.2.2.1.2.1.2.1, ()), (b.2.2.2.1.2.2.1.1, b.2.2.2.1.2.2.1.2.1, ()), ()), ((b.2.2.2.2.1.1.1, b.2.2.2.2.1.1.2.1, ()), (b.2.2.2.2.1.2.1.1, b.2.2.2.2.1.2.1.2.1, ()), (b.2.2.2.2.1.2.2.1.1, b.2.2.2.2.1.2.2.1.2.1, ()), ()), ())
def mkS (x : TCT cSc) : TCT cSc := (x.1, x.2.1, x.2.2.1, x.2.2.2.1, ())
abbrev s_board : PureT := spec [cCo] [cB, cSc] (fun _ => true) (fun x => (mkB (bF x.1).1, mkS (bF x.1).2, ()))
theorem q_board : PureOk Tryz.prog 5 s_board := q_by (ctxU_ok (u := 4) mixed puOk_nil allT_ok) 40 (fun x => T_bo x.1.1 x.1.2.1 x.1.2.2.1 x.1.2.2.2.1 x.1.2.2.2.2.1 x.1.2.2.2.2.2.1 x.1.2.2.2.2.2.2.1 x.1.2.2.2.2.2.2.2.1 x.1.2.2.2.2.2.2.2.2.1 x.1.2.2.2.2.2.2.2.2.2.1 x.1.2.2.2.2.2.2.2.2.2.2.1 x.1.2.2.2.2.2.2.2.2.2.2.2.1) (fun x => T_bo_eq _ _ _ _ _ _ _ _ _ _ _ _) fun x _ _ => by
  rw [T_bo_ok]
  exact rfl
end V
end Go.Proofs.YtialgmhhkbdegaaGreat
