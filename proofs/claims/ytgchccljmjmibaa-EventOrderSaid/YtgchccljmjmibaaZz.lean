/- Tools for the laws of chapter 11: loops of a context, looks at lists. -/
import Derived.Test.YtgchccljmjmibaaBa
namespace Go.Proofs.Ytgchccljmjmibaa
open Go.RowKit
namespace V
theorem loops_none {P : Program} {f : Nat} {fn : Func} {loops : List ((Nat × Nat) × (St → Tree (XE × St)))} (h : loopsOf (bodyOf fn) = []) : ∀ d ∈ loopsOf (bodyOf fn), ∀ g, assoc2 loops f (keyOf d) = some g → LoopOk P f d g := by
  intro d hd
  rw [h] at hd
  cases hd
theorem loops_nil {P : Program} {loops : List ((Nat × Nat) × (St → Tree (XE × St)))} : ∀ q ∈ ([] : List (Nat × Func)), ∀ d ∈ loopsOf (bodyOf q.2), ∀ g, assoc2 loops q.1 (keyOf d) = some g → LoopOk P q.1 d g := fun _ h => nomatch h
theorem loops_cons {P : Program} {f : Nat} {fn : Func} {rest : List (Nat × Func)} {loops : List ((Nat × Nat) × (St → Tree (XE × St)))} (h : ∀ d ∈ loopsOf (bodyOf fn), ∀ g, assoc2 loops f (keyOf d) = some g → LoopOk P f d g)
    (hr : ∀ q ∈ rest, ∀ d ∈ loopsOf (bodyOf q.2), ∀ g, assoc2 loops q.1 (keyOf d) = some g → LoopOk P q.1 d g) : ∀ q ∈ (f, fn) :: rest, ∀ d ∈ loopsOf (bodyOf q.2), ∀ g, assoc2 loops q.1 (keyOf d) = some g → LoopOk P q.1 d g := by
  intro q hq
  rcases List.mem_cons.1 hq with rfl | hq
  · exact h
  · exact hr q hq
/-- the loops of one function: each by its key -/
def AllOk (P : Program) (f : Nat) (loops : List ((Nat × Nat) × (St → Tree (XE × St)))) : List Code → Prop
  | [] => True
  | d :: l => (∀ g, assoc2 loops f (keyOf d) = some g → LoopOk P f d g) ∧ AllOk P f loops l
theorem loops_of {P : Program} {f : Nat} {fn : Func} {loops : List ((Nat × Nat) × (St → Tree (XE × St)))} {ds : List Code} (h : loopsOf (bodyOf fn) = ds) (ha : AllOk P f loops ds) : ∀ d ∈ loopsOf (bodyOf fn), ∀ g, assoc2 loops f (keyOf d) = some g → LoopOk P f d g := by
  rw [h]
  clear h
  induction ds with
  | nil => intro d hd; cases hd
  | cons a l ih =>
    intro d hd
    rcases List.mem_cons.1 hd with rfl | hd
    · exact ha.1
    · exact ih ha.2 d hd
theorem one_key {P : Program} {f : Nat} {d : Code} {loops : List ((Nat × Nat) × (St → Tree (XE × St)))} {k : Nat} {s : St → Tree (XE × St)} (hk : keyOf d = k) (ha : assoc2 loops f k = some s) (h : LoopOk P f d s) : ∀ g, assoc2 loops f (keyOf d) = some g → LoopOk P f d g := by
  intro g hg
  rw [hk, ha] at hg
  cases hg
  exact h
theorem no_key {P : Program} {f : Nat} {d : Code} {loops : List ((Nat × Nat) × (St → Tree (XE × St)))} {k : Nat} (hk : keyOf d = k) (ha : assoc2 loops f k = none) : ∀ g, assoc2 loops f (keyOf d) = some g → LoopOk P f d g := by
  intro g hg
  rw [hk, ha] at hg
  cases hg
namespace Ev
/-- a look at a list, bounds checked -/
def inN {β : Type} (n : Nat) (i : Int) (t : Tree β) : Tree β := bif decide (0 ≤ i ∧ i < (n : Int)) then t else .fail
/-- a look at a list of one's own -/
def inO {β : Type} (n : Nat) (i : Int) (t : Tree β) : Tree β := bif decide (0 ≤ i ∧ i < (n : Int)) then bif decide (Int.toNat i < n) then t else .fail else .fail
/-- a list is made -/
def mkT {β : Type} (n : Int) (k : Tree β) : Tree β := bif decide (0 ≤ n ∧ n ≤ n ∧ n ≤ 65536 ∧ ((1 : Nat) : Int) * n ≤ 281474976710656) then k else .fail
/-- all elements of a list, with their numbers, are so -/
def allI {α : Type} (ok : Nat → α → Bool) : Nat → List α → Bool
  | _, [] => true
  | i, x :: l => ok i x && allI ok (i + 1) l
theorem runO_all {α E : Type} (ok : Nat → α → Bool) (r d : E) : ∀ (l : List α) (i : Nat), runO (fun i x (_ : Unit) => bif ok i x then some (.inl ()) else some (.inr r)) (fun _ => some d) i l () = some (bif allI ok i l then d else r)
  | [], i => rfl
  | x :: l, i => by
    simp only [runO, allI]
    cases ok i x with
    | true => simp only [cond_true, Bool.true_and]; exact runO_all ok r d l (i + 1)
    | false => rfl
/-- a loop that looks through a list for something bad -/
theorem iter_bad {G E α : Type} {st : G → Tree (G ⊕ E)} (l : List α) (d : α) (hd : Int → G) (bad : α → Bool) (rt ex : E) (hl : (l.length : Int) ≤ maxK .i64)
    (h : ∀ i : Int, st (hd i) = bif decide (i < (l.length : Int)) then bif decide (0 ≤ i ∧ i < (l.length : Int)) then bif bad (getA l (Int.toNat i) d) then .leaf (.inr rt) else .leaf (.inl (hd (W64 (i + 1)))) else .fail else .leaf (.inr ex)) :
    iter st (l.length + 1) (hd 0) = some (bif l.any bad then rt else ex) := by
  have hl' : (l.length : Int) ≤ 9223372036854775807 := hl
  have key := iter_list (st := st) l (fun i (_ : Unit) => hd (i : Int)) (fun _ x _ => bif bad x then some (.inr rt) else some (.inl ())) (fun _ => some ex) (fun _ _ => True)
    (fun i s hi _ => by
      have hrun : (st (hd (i : Int))).run = some (bif bad l[i] then .inr rt else .inl (hd ((i + 1 : Nat) : Int))) := by
        rw [h, decide_eq_true (show (i : Int) < (l.length : Int) by omega), decide_eq_true (show 0 ≤ (i : Int) ∧ (i : Int) < (l.length : Int) by omega), show Int.toNat (i : Int) = i by omega, getA_lt hi, W64_id (n := (i : Int) + 1) (by omega) (by omega)]
        cases bad l[i] <;> rfl
      cases hb : bad l[i] with
      | true => rw [hb] at hrun; simp only [cond_true]; exact hrun
      | false => rw [hb] at hrun; simp only [cond_false]; exact ⟨hrun, trivial⟩)
    (fun s e _ he => by
      cases he
      rw [h, decide_eq_false (show ¬ (l.length : Int) < (l.length : Int) by omega)]
      rfl)
    l.length 0 () (bif l.any bad then rt else ex) (l.length + 1) (by omega) (by omega) trivial (by rw [List.drop_zero]; exact runO_any bad (fun _ => rt) ex _ 0)
  exact key
/-- a loop in which each element of a list has to be fine, with its number -/
theorem iter_all {G E α : Type} {st : G → Tree (G ⊕ E)} (l : List α) (d : α) (hd : Int → G) (ok : Nat → α → Bool) (body : Int → α → Tree (G ⊕ E)) (rt ex : E) (hl : (l.length : Int) ≤ maxK .i64)
    (h : ∀ i : Int, st (hd i) = bif decide (i < (l.length : Int)) then bif decide (0 ≤ i ∧ i < (l.length : Int)) then body i (getA l (Int.toNat i) d) else .fail else .leaf (.inr ex))
    (hb : ∀ (i : Nat) (hi : i < l.length), (body (i : Int) l[i]).run = some (bif ok i l[i] then .inl (hd ((i + 1 : Nat) : Int)) else .inr rt)) :
    iter st (l.length + 1) (hd 0) = some (bif allI ok 0 l then ex else rt) := by
  have hl' : (l.length : Int) ≤ 9223372036854775807 := hl
  have key := iter_list (st := st) l (fun i (_ : Unit) => hd (i : Int)) (fun i x _ => bif ok i x then some (.inl ()) else some (.inr rt)) (fun _ => some ex) (fun _ _ => True)
    (fun i s hi _ => by
      have hrun : (st (hd (i : Int))).run = some (bif ok i l[i] then .inl (hd ((i + 1 : Nat) : Int)) else .inr rt) := by
        rw [h, decide_eq_true (show (i : Int) < (l.length : Int) by omega), decide_eq_true (show 0 ≤ (i : Int) ∧ (i : Int) < (l.length : Int) by omega), show Int.toNat (i : Int) = i by omega, getA_lt hi]
        exact hb i hi
      cases hk : ok i l[i] with
      | true => rw [hk] at hrun; simp only [cond_true]; exact ⟨hrun, trivial⟩
      | false => rw [hk] at hrun; simp only [cond_false]; exact hrun)
    (fun s e _ he => by
      cases he
      rw [h, decide_eq_false (show ¬ (l.length : Int) < (l.length : Int) by omega)]
      rfl)
    l.length 0 () (bif allI ok 0 l then ex else rt) (l.length + 1) (by omega) (by omega) trivial (by rw [List.drop_zero]; exact runO_all ok rt ex _ 0)
  exact key
/-- a loop that folds a list -/
theorem runO_foldl {α S E : Type} (f : S → α → S) (ex : S → E) : ∀ (l : List α) (i : Nat) (s : S), runO (fun _ x s => some (.inl (f s x))) (fun s => some (ex s)) i l s = some (ex (l.foldl f s))
  | [], _, _ => rfl
  | x :: l, i, s => by simp only [runO, List.foldl_cons]; exact runO_foldl f ex l (i + 1) (f s x)
theorem iter_foldl {G S E α : Type} {st : G → Tree (G ⊕ E)} (l : List α) (hd : Int → S → G) (f : S → α → S) (ex : S → E) (Inv : Nat → S → Prop)
    (h1 : ∀ (i : Nat) (s : S) (hi : i < l.length), Inv i s → (st (hd i s)).run = some (.inl (hd ((i + 1 : Nat) : Int) (f s l[i]))) ∧ Inv (i + 1) (f s l[i]))
    (h2 : ∀ s, Inv l.length s → (st (hd l.length s)).run = some (.inr (ex s))) (s0 : S) (h0 : Inv 0 s0) : iter st (l.length + 1) (hd 0 s0) = some (ex (l.foldl f s0)) :=
  iter_list (st := st) l (fun i s => hd (i : Int) s) (fun _ x s => some (.inl (f s x))) (fun s => some (ex s)) Inv (fun i s hi hv => h1 i s hi hv) (fun s e hv he => by cases he; exact h2 s hv) l.length 0 s0 _ (l.length + 1) (by omega) (by omega) h0 (by rw [List.drop_zero]; exact runO_foldl f ex l 0 s0)
/-- a loop that looks for an element, with its number -/
theorem iter_find {G E α : Type} {st : G → Tree (G ⊕ E)} (l : List α) (hd : Int → G) (bad : α → Bool) (rt : Nat → E) (ex : E)
    (h : ∀ (i : Nat) (hi : i < l.length), (st (hd i)).run = some (bif bad l[i] then .inr (rt i) else .inl (hd ((i + 1 : Nat) : Int)))) (h2 : (st (hd l.length)).run = some (.inr ex)) :
    iter st (l.length + 1) (hd 0) = some (bif l.any bad then rt (l.findIdx bad) else ex) :=
  iter_list (st := st) l (fun i (_ : Unit) => hd (i : Int)) (fun i x _ => bif bad x then some (.inr (rt i)) else some (.inl ())) (fun _ => some ex) (fun _ _ => True)
    (fun i s hi _ => by
      have hrun := h i hi
      cases hb : bad l[i] with
      | true => rw [hb] at hrun; simp only [cond_true]; exact hrun
      | false => rw [hb] at hrun; simp only [cond_false]; exact ⟨hrun, trivial⟩)
    (fun s e _ he => by cases he; exact h2)
    l.length 0 () _ (l.length + 1) (by omega) (by omega) trivial (by rw [List.drop_zero, runO_any bad rt ex _ 0, Nat.zero_add])
/-- a loop in which each element of a list has to be fine, with a state -/
theorem runO_allS {α S E : Type} (ok : Nat → α → Bool) (nx : α → S → S) (r d : E) : ∀ (l : List α) (i : Nat) (s : S), runO (fun i x s => bif ok i x then some (.inl (nx x s)) else some (.inr r)) (fun _ => some d) i l s = some (bif allI ok i l then d else r)
  | [], i, _ => rfl
  | x :: l, i, s => by
    simp only [runO, allI]
    cases ok i x with
    | true => simp only [cond_true, Bool.true_and]; exact runO_allS ok nx r d l (i + 1) (nx x s)
    | false => rfl
theorem iter_allS {G S E α : Type} {st : G → Tree (G ⊕ E)} (l : List α) (hd : Int → S → G) (ok : Nat → α → Bool) (nx : α → S → S) (rt ex : E) (Inv : Nat → S → Prop)
    (h1 : ∀ (i : Nat) (s : S) (hi : i < l.length), Inv i s → (st (hd i s)).run = some (bif ok i l[i] then .inl (hd ((i + 1 : Nat) : Int) (nx l[i] s)) else .inr rt) ∧ Inv (i + 1) (nx l[i] s))
    (h2 : ∀ s, Inv l.length s → (st (hd l.length s)).run = some (.inr ex)) (s0 : S) (h0 : Inv 0 s0) : iter st (l.length + 1) (hd 0 s0) = some (bif allI ok 0 l then ex else rt) :=
  iter_list (st := st) l (fun i s => hd (i : Int) s) (fun i x s => bif ok i x then some (.inl (nx x s)) else some (.inr rt)) (fun _ => some ex) Inv
    (fun i s hi hv => by
      obtain ⟨hrun, hn⟩ := h1 i s hi hv
      cases hk : ok i l[i] with
      | true => rw [hk] at hrun; simp only [cond_true]; exact ⟨hrun, hn⟩
      | false => rw [hk] at hrun; simp only [cond_false]; exact hrun)
    (fun s e hv he => by cases he; exact h2 s hv) l.length 0 s0 _ (l.length + 1) (by omega) (by omega) h0 (by rw [List.drop_zero]; exact runO_allS ok nx rt ex l 0 s0)
theorem wrapU {n : Int} (h1 : 0 ≤ n) (h2 : n ≤ 18446744073709551615) : IntKind.u64.wrap n = n := by
  unfold IntKind.wrap
  simp [IntKind.bits, IntKind.signed]
  omega
theorem app_ok {β : Type} {h w : List β} {b : Nat} (k : h.length + w.length ≤ 1000000) (hb : b ≤ 48) : appOk h w b = true := by
  rw [appOk_eq]
  refine decide_eq_true ?_
  have h1 : ((h.length + w.length : Nat) : Int) * (b : Int) ≤ 1000000 * 48 := Int.mul_le_mul (by omega) (by omega) (by omega) (by omega)
  omega
theorem inN_ok {β : Type} {n : Nat} {i : Int} {t : Tree β} (h : 0 ≤ i ∧ i < (n : Int)) : inN n i t = t := by
  unfold inN
  rw [decide_eq_true h]; rfl
theorem inO_ok {β : Type} {n : Nat} {i : Int} {t : Tree β} (h : 0 ≤ i ∧ i < (n : Int)) : inO n i t = t := by
  unfold inO
  rw [decide_eq_true h, decide_eq_true (show Int.toNat i < n by omega)]; rfl
end Ev
end V
end Go.Proofs.Ytgchccljmjmibaa
