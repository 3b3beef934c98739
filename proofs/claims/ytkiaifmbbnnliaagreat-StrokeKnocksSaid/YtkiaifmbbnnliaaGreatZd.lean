import Derived.Test.YtkiaifmbbnnliaaGreatZc
namespace Go.Proofs.YtkiaifmbbnnliaaGreat
open Go.RowKit
namespace V
def fcN {β : Type} (n : Nat) (k : Nat → β) : β := Nat.rec (motive := fun _ => β) (k 0) (fun m _ => k (Nat.succ m)) n
def fcI {β : Type} (n : Int) (k : Int → β) : β := match n with
  | .ofNat m => fcN m fun m => k (.ofNat m)
  | .negSucc m => fcN m fun m => k (.negSucc m)
theorem fcN_eq {β : Type} (n : Nat) (k : Nat → β) : fcN n k = k n := by cases n <;> rfl
theorem fcI_eq {β : Type} (n : Int) (k : Int → β) : fcI n k = k n := by
  cases n <;> simp only [fcI, fcN_eq]
def fcB {β : Type} (b : Bool) (k : Bool → β) : β := match b with
  | true => k true
  | false => k false
theorem fcB_eq {β : Type} (b : Bool) (k : Bool → β) : fcB b k = k b := by cases b <;> rfl
def fcL {α β : Type} (f : α → (α → β) → β) : List α → (List α → β) → β
  | [], k => k []
  | x :: l, k => f x fun x => fcL f l fun l => k (x :: l)
theorem fcL_eq {α β : Type} {f : α → (α → β) → β} (hf : ∀ x k, f x k = k x) : ∀ (l : List α) (k : List α → β), fcL f l k = k l
  | [], _ => rfl
  | x :: l, k => by
    simp only [fcL]
    rw [hf, fcL_eq hf l]
mutual
def fcT {β : Type} : (c : TC) → TCT c → (TCT c → β) → β
  | .b, x, k => fcB x k
  | .i _, n, k => fcI n k
  | .s, x, k => k x
  | .sl c, xs, k => fcL (fun x k => fcT c x k) xs k
  | .st cs, x, k => fcTs cs x k
def fcTs {β : Type} : (cs : List TC) → TCTs cs → (TCTs cs → β) → β
  | [], _, k => k ()
  | c :: cs, x, k => fcT c x.1 fun y => fcTs cs x.2 fun z => k (y, z)
end
mutual
theorem fcT_eq {β : Type} : ∀ (c : TC) (x : TCT c) (k : TCT c → β), fcT c x k = k x
  | .b, x, k => by simp only [fcT]; exact fcB_eq x k
  | .i _, n, k => by simp only [fcT]; exact fcI_eq n k
  | .s, x, k => by simp only [fcT]
  | .sl c, xs, k => by simp only [fcT]; exact fcL_eq (fun x k => fcT_eq c x k) xs k
  | .st cs, x, k => by simp only [fcT]; exact fcTs_eq cs x k
theorem fcTs_eq {β : Type} : ∀ (cs : List TC) (x : TCTs cs) (k : TCTs cs → β), fcTs cs x k = k x
  | [], _, k => by simp only [fcTs]
  | c :: cs, x, k => by simp only [fcTs]; rw [fcT_eq c x.1, fcTs_eq cs x.2]
end
noncomputable def autoF (X : Ctx) (m : Nat) (f : FuncId) (cs rs : List TC) : PureT :=
  { run := fun l => match decAs cs l with
      | some x => fcTs cs x fun x => fcTs rs ((evFn X m (.fn f) (encAs cs x) noHeap 0 (outK X.P rs)).val (dflts rs)) fun y => some ((evFn X m (.fn f) (encAs cs x) noHeap 0 (outK X.P rs)).isLeaf, encR rs y)
      | none => none
    flat := noSls rs }
theorem autoF_eq (X : Ctx) (m : Nat) (f : FuncId) (cs rs : List TC) : autoF X m f cs rs = auto X m f cs rs := by
  unfold autoF auto tspec spec
  congr 1
  funext l
  cases decAs cs l with
  | none => rfl
  | some x => simp only [fcTs_eq]
theorem autoF_ok {X : Ctx} (hX : CtxOk X) (m : Nat) (f : FuncId) (cs rs : List TC) : PureOk X.P f (autoF X m f cs rs) := by
  rw [autoF_eq]; exact auto_ok hX m f cs rs
end V
end Go.Proofs.YtkiaifmbbnnliaaGreat
