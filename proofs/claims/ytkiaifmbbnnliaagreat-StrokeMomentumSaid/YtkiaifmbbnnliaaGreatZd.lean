import Derived.Test.YtkiaifmbbnnliaaGreatZc
namespace Go.Proofs.YtkiaifmbbnnliaaGreat
open Go.RowKit
namespace V
def fcN {β : Type} (n : Nat) (k : Nat → β) : β := Nat.rec (motive := fun _ => β) (k 0) (fun m _ => k (Nat.succ m)) n
def fcI {β : Type} (n : Int) (k : Int → β) : β := match n with
 | .ofNat m => fcN m fun m => k (.ofNat m)
 | .negSucc m => fcN m fun m => k (.negSucc m)
theorem B30 {β : Type} (n : Nat) (k : Nat → β) : fcN n k = k n := by cases n <;> rfl
theorem B31 {β : Type} (n : Int) (k : Int → β) : fcI n k = k n := by
 cases n <;> simp only [fcI, B30]
def fcB {β : Type} (b : Bool) (k : Bool → β) : β := match b with
 | true => k true
 | false => k false
theorem B32 {β : Type} (b : Bool) (k : Bool → β) : fcB b k = k b := by cases b <;> rfl
def fcL {α β : Type} (f : α → (α → β) → β) : List α → (List α → β) → β
 | [], k => k []
 | x :: l, k => f x fun x => fcL f l fun l => k (x :: l)
theorem Aq1 {α β : Type} {f : α → (α → β) → β} (hf : ∀ x k, f x k = k x) : ∀ (l : List α) (k : List α → β), fcL f l k = k l
 | [], _ => rfl
 | x :: l, k => by
  simp only [fcL]
  rw [hf, Aq1 hf l]
mutual
def fcT {β : Type} : (c : TC) → TCT c → (TCT c → β) → β
 | .b, x, k => fcB x k
 | .i _, n, k => fcI n k
 | .s, x, k => k x
 | .sl c, xs, k => fcL (fun x k => fcT c x k) xs k
 | .st cs, x, k => fcTs cs x k
def fcTs {β : Type} : (cs : List TC) → TCTs cs → (TCTs cs → β) → β
 | [], _, k => k ()
 | c :: cs, x, k => fcT c x.1 fun y => fcTs cs x.2 fun z => k (y, z)
end
mutual
theorem Aq2 {β : Type} : ∀ (c : TC) (x : TCT c) (k : TCT c → β), fcT c x k = k x
 | .b, x, k => by simp only [fcT]; exact B32 x k
 | .i _, n, k => by simp only [fcT]; exact B31 n k
 | .s, x, k => by simp only [fcT]
 | .sl c, xs, k => by simp only [fcT]; exact Aq1 (fun x k => Aq2 c x k) xs k
 | .st cs, x, k => by simp only [fcT]; exact fcTs_eq cs x k
theorem fcTs_eq {β : Type} : ∀ (cs : List TC) (x : TCTs cs) (k : TCTs cs → β), fcTs cs x k = k x
 | [], _, k => by simp only [fcTs]
 | c :: cs, x, k => by simp only [fcTs]; rw [Aq2 c x.1, fcTs_eq cs x.2]
end
noncomputable def Y0 (X : Ctx) (m : Nat) (f : FuncId) (cs rs : List TC) : PureT :=
 {
  run := fun l => match K7 cs l with
   | some x => fcTs cs x fun x => fcTs rs ((Ch X m (.fn f) (Co cs x) Bl 0 (Hn X.P rs)).val (dflts rs)) fun y => some ((Ch X m (.fn f) (Co cs x) Bl 0 (Hn X.P rs)).isLeaf, Agg rs y)
   | none => none
  flat := noSls rs }
theorem Aq3 (X : Ctx) (m : Nat) (f : FuncId) (cs rs : List TC) : Y0 X m f cs rs = B2z X m f cs rs := by
 unfold Y0 B2z Apn B4
 congr 1
 funext l
 cases K7 cs l with
 | none => rfl
 | some x => simp only [fcTs_eq]
theorem R9 {X : Ctx} (hX : CtxOk X) (m : Nat) (f : FuncId) (cs rs : List TC) : A7 X.P f (Y0 X m f cs rs) := by
 rw [Aq3]; exact Awi hX m f cs rs
end V
end Go.Proofs.YtkiaifmbbnnliaaGreat
