/- What all texts of the second edition use: short names, loops over lists. -/
import Derived.Test.YtgchccljmjmibaaVD
import Derived.Test.YtgchccljmjmibaaChecked
namespace Go.Proofs.Ytgchccljmjmibaa
open Go.RowKit
namespace V
abbrev cI : TC := .i .i64
abbrev W64 (n : Int) : Int := IntKind.i64.wrap n
theorem mixed : Try.prog.follows .mixedOrders = true := by kernel_rfl
theorem loops_one {P : Program} {f : Nat} {fn : Func} {lb : Code} {sum : St → Tree (XE × St)} {k : Nat} (hk : keyOf lb = k) (h1 : loopsOf (bodyOf fn) = [lb]) (h2 : LoopOk P f lb sum) :
    ∀ p ∈ [(f, fn)], ∀ d ∈ loopsOf (bodyOf p.2), ∀ g, assoc2 [((f, k), sum)] p.1 (keyOf d) = some g → LoopOk P p.1 d g := by
  intro p hp d hd g hg
  simp only [List.mem_singleton] at hp
  subst hp
  simp only at hd hg
  rw [h1, List.mem_singleton] at hd
  subst hd
  subst hk
  simp [assoc2] at hg
  subst hg
  exact h2
/-- the loops of some functions, by their summaries -/
theorem loops_all {P : Program} {fns : List (Nat × Func)} {loops : List ((Nat × Nat) × (St → Tree (XE × St)))} (h : ∀ p ∈ fns, ∀ d ∈ loopsOf (bodyOf p.2), ∀ g, assoc2 loops p.1 (keyOf d) = some g → LoopOk P p.1 d g) : ∀ p ∈ fns, ∀ d ∈ loopsOf (bodyOf p.2), ∀ g, assoc2 loops p.1 (keyOf d) = some g → LoopOk P p.1 d g := h
theorem W64_id {n : Int} (h : -9223372036854775808 ≤ n) (h2 : n ≤ 9223372036854775807) : W64 n = n := wrap_id h h2
theorem in64' {x : Int} (h : inK .i64 x) : -9223372036854775808 ≤ x ∧ x ≤ 9223372036854775807 := h
theorem W64_succ {i n : Nat} (h : i < n) (hn : (n : Int) ≤ maxK .i64) : W64 ((i : Int) + 1) = ((i + 1 : Nat) : Int) := by
  simp only [maxK] at hn
  rw [show W64 ((i : Int) + 1) = (i : Int) + 1 from wrap_id (by omega) (by omega)]; rfl

section
variable {L : Lay} {E : XE → Lay} {step : L.T → Tree (L.T ⊕ Left' E)} {R : Left' E → Prop} {S α : Type}
/-- a loop over a list, by what is done with an element -/
theorem forL (l : List α) (d : α) (hn : (l.length : Int) ≤ maxK .i64) (hd : Int → Int → S → L.T) (f : α → Nat → S → S ⊕ Left' E) (ex : S → Left' E) (Inv : S → Prop) (body : α → Int → S → Tree (L.T ⊕ Left' E))
    (hstep : ∀ (i : Int) (s : S), step (hd l.length i s) = bif decide (i < (l.length : Int)) then bif decide (0 ≤ i ∧ i < (l.length : Int)) then body (getA l i.toNat d) i s else .fail else .leaf (.inr (ex s)))
    (hbody : ∀ (i : Nat) (s : S) (hi : i < l.length) (Q : L.T ⊕ Left' E → Prop), Inv s → L.WF (hd l.length i s) → W64 ((i : Int) + 1) = ((i + 1 : Nat) : Int) → (match f l[i] i s with
      | .inl s' => Inv s' → Q (.inl (hd l.length ((i + 1 : Nat) : Int) s'))
      | .inr b => Q (.inr b)) → (body l[i] i s).sat Q) (s : S) (hs : Inv s) (hr : R (runL f ex l 0 s)) : ∃ n, Rnds L E step R n (hd l.length 0 s) := by
  refine ⟨_, rnds_runL l (fun i s => hd l.length i s) f ex Inv ?_ ?_ l.length 0 s (by omega) hs (by rw [List.drop_zero]; exact hr)⟩
  · intro i s hi Q hI hw hQ
    rw [hstep, decide_eq_true (show (i : Int) < l.length by omega), decide_eq_true (show 0 ≤ (i : Int) ∧ (i : Int) < l.length by omega), cond_true, cond_true]
    have ht : (i : Int).toNat = i := by omega
    rw [ht, getA_lt hi]
    exact hbody i s hi Q hI hw (W64_succ hi hn) hQ
  · intro s Q hI hQ
    rw [hstep, decide_eq_false (show ¬ (l.length : Int) < l.length by omega)]
    exact hQ
end
/-- a list that is looked at from its first element on -/
def atHead {β : Type} (n i : Int) (l : List β) : Bool := decide (n = (l.length : Int) ∧ i = 0)
theorem wfl_len {c : TC} {l : List (TCT c)} (h : WFD (.sl c) l) : (l.length : Int) ≤ maxK .i64 := by
  simp only [WFD] at h
  exact h.1
theorem wfl_mem {c : TC} {l : List (TCT c)} (h : WFD (.sl c) l) : ∀ x ∈ l, WFD c x := by
  simp only [WFD] at h
  exact h.2
theorem run_any {α B : Type} (p : α → Bool) (r : Nat → B) (e : B) : ∀ (l : List α) (i : Nat), runL (fun x i (_ : Unit) => bif p x then .inr (r i) else .inl ()) (fun _ => e) l i () = bif l.any p then r (i + l.findIdx p) else e
  | [], i => rfl
  | x :: l, i => by
    simp only [runL, List.any_cons, List.findIdx_cons]
    cases p x with
    | true => simp
    | false =>
      simp only [cond_false, Bool.false_or]
      rw [run_any p r e l (i + 1)]
      cases l.any p with
      | true => simp only [cond_true]; congr 1; omega
      | false => rfl
theorem any_idx {α : Type} (p : α → Bool) (l : List α) : decide ((bif l.any p then (l.findIdx p : Int) else -1) ≥ 0) = l.any p := by
  cases l.any p with
  | true => exact decide_eq_true (by simp only [cond_true]; omega)
  | false => rfl
/-- a contract by the tree that comes out -/
theorem kq_by {X : Ctx} (hX : CtxOk X) {f : FuncId} {ks : List SK} {rs : List TC} {ok : SKTs ks → Bool} {F : SKTs ks → TCTs rs} (m : Nat) (T : SKTs ks → Tree (TCTs rs))
    (e : ∀ x : SKTs ks, evFn X m (.fn f) (ofKs ks x 0) noHeap 0 (outK X.P rs) = T x) (h : ∀ x : SKTs ks, ok x = true → WFKs ks x → (T x).sat (fun y => y = F x)) : PureOk X.P f (kspec ks rs ok F) :=
  kq hX m fun x h1 h2 => sat_eq (e x) (h x h1 h2)
theorem run_fold {α B S : Type} (g : S → α → S) (ex : S → B) : ∀ (l : List α) (i : Nat) (s : S), runL (fun x _ s => (.inl (g s x) : S ⊕ B)) ex l i s = ex (l.foldl g s)
  | [], _, _ => rfl
  | x :: l, i, s => by simp only [runL, List.foldl_cons]; exact run_fold g ex l (i + 1) (g s x)
section
variable {L : Lay} {E : XE → Lay} {step : L.T → Tree (L.T ⊕ Left' E)} {R : Left' E → Prop} {S α : Type}
theorem rnds_fold (l : List α) (head : Nat → S → L.T) (g : S → α → S) (ex : S → Left' E) (Inv : Nat → S → Prop)
    (h1 : ∀ (i : Nat) (s : S) (hi : i < l.length) (Q : L.T ⊕ Left' E → Prop), Inv i s → L.WF (head i s) → (Inv (i + 1) (g s l[i]) → Q (.inl (head (i + 1) (g s l[i])))) → (step (head i s)).sat Q)
    (h3 : ∀ (s : S) (Q : L.T ⊕ Left' E → Prop), Inv l.length s → Q (.inr (ex s)) → (step (head l.length s)).sat Q) :
    ∀ (k i : Nat) (s : S), i + k = l.length → Inv i s → R (ex ((l.drop i).foldl g s)) → Rnds L E step R (k + 1) (head i s)
  | 0, i, s, hk, hi, hr => by
    have e : i = l.length := by omega
    subst e
    rw [List.drop_length] at hr
    intro _
    exact h3 s _ hi (fun _ => hr)
  | k + 1, i, s, hk, hi, hr => by
    have hlt : i < l.length := by omega
    intro hw
    rw [List.drop_eq_getElem_cons hlt] at hr
    exact h1 i s hlt _ hi hw fun hi' => rnds_fold l head g ex Inv h1 h3 k (i + 1) _ (by omega) hi' hr
/-- a loop over a whole list -/
theorem forFold (l : List α) (d : α) (hn : (l.length : Int) ≤ maxK .i64) (hd : Int → Int → S → L.T) (g : S → α → S) (ex : S → Left' E) (Inv : Nat → S → Prop) (body : α → Int → S → Tree (L.T ⊕ Left' E))
    (hstep : ∀ (i : Int) (s : S), step (hd l.length i s) = bif decide (i < (l.length : Int)) then bif decide (0 ≤ i ∧ i < (l.length : Int)) then body (getA l i.toNat d) i s else .fail else .leaf (.inr (ex s)))
    (hbody : ∀ (i : Nat) (s : S) (hi : i < l.length) (Q : L.T ⊕ Left' E → Prop), Inv i s → L.WF (hd l.length i s) → W64 ((i : Int) + 1) = ((i + 1 : Nat) : Int) → (Inv (i + 1) (g s l[i]) → Q (.inl (hd l.length ((i + 1 : Nat) : Int) (g s l[i])))) → (body l[i] i s).sat Q)
    (s : S) (hs : Inv 0 s) (hr : R (ex (l.foldl g s))) : ∃ n, Rnds L E step R n (hd l.length 0 s) := by
  refine ⟨_, rnds_fold l (fun i s => hd l.length i s) g ex Inv ?_ ?_ l.length 0 s (by omega) hs (by rw [List.drop_zero]; exact hr)⟩
  · intro i s hi Q hI hw hQ
    rw [hstep, decide_eq_true (show (i : Int) < l.length by omega), decide_eq_true (show 0 ≤ (i : Int) ∧ (i : Int) < l.length by omega), cond_true, cond_true]
    have ht : (i : Int).toNat = i := by omega
    rw [ht, getA_lt hi]
    exact hbody i s hi Q hI hw (W64_succ hi hn) hQ
  · intro s Q hI hQ
    rw [hstep, decide_eq_false (show ¬ (l.length : Int) < l.length by omega)]
    exact hQ
end
/-- a context in which loops without a summary are walked a number of times at most -/
def ctxU (u : Nat) (P : Program) (pu : List (Nat × PureT)) (fns : List (Nat × Func)) : Ctx := { P := P, u := u, fns := fns, loops := [], pures := pu, specs := [] }
theorem ctxU_ok {u : Nat} {P : Program} (hm : P.follows .mixedOrders = true) {pu : List (Nat × PureT)} {fns : List (Nat × Func)} (hp : PuOk P pu) (hf : ∀ p ∈ fns, FnIs P p) : CtxOk (ctxU u P pu fns) :=
  ⟨hm, hp, fun p h => ⟨(hf p h).1, (hf p h).2.1, fun _ _ _ _ _ h => by simp [ctxU, assoc2] at h⟩, fun p h => by simp [ctxU] at h⟩
/-- a contract of a function that panics, by the tree that comes out -/
theorem kqP_by {X : Ctx} (hX : CtxOk X) {f : FuncId} {ks : List SK} {rs : List TC} {ok : SKTs ks → Bool} {F : SKTs ks → TCTs rs} {p : TypeId × IntKind × Int} (m : Nat) (hin : inKB p.2.1 p.2.2 = true) (T : SKTs ks → Tree (Option (TCTs rs)))
    (e : ∀ x : SKTs ks, evFn X m (.fn f) (ofKs ks x 0) noHeap 0 (outP X.P rs p) = T x) (h : ∀ x : SKTs ks, WFKs ks x → (T x).sat (fun y => y = bif ok x then some (F x) else none)) : PureOk X.P f (kspecP ks rs ok F p) ∧ PanOk X.P f (kspecP ks rs ok F p) :=
  kqP hX m hin fun x h2 => sat_eq (e x) (h x h2)
/-- a fold that may fail -/
def foldO {S α : Type} (g : S → α → Option S) : S → List α → Option S
  | s, [] => some s
  | s, x :: l => (g s x).bind fun s' => foldO g s' l
theorem foldO_append {S α : Type} (g : S → α → Option S) : ∀ (l m : List α) (s : S), foldO g s (l ++ m) = (foldO g s l).bind fun s' => foldO g s' m
  | [], _, _ => rfl
  | x :: l, m, s => by
    simp only [List.cons_append, foldO]
    cases g s x with
    | none => rfl
    | some s' => exact foldO_append g l m s'
theorem foldO_flat {S α β : Type} (g : S → α → Option S) (f : β → List α) : ∀ (l : List β) (s : S), foldO g s (l.flatMap f) = foldO (fun s x => foldO g s (f x)) s l
  | [], _ => rfl
  | x :: l, s => by
    rw [List.flatMap_cons, foldO_append]
    simp only [foldO]
    cases foldO g s (f x) with
    | none => rfl
    | some s' => exact foldO_flat g f l s'
section
variable {L : Lay2} {E : XE → Lay2} {step : L.T → Tree (L.T ⊕ Left2 E)} {R : Left2 E → Prop} {S α : Type}
theorem rnds2_foldO (l : List α) (head : Nat → S → L.T) (g : S → α → Option S) (ex : S → Left2 E)
    (h1 : ∀ (i : Nat) (s s' : S) (hi : i < l.length) (Q : L.T ⊕ Left2 E → Prop), L.WF (head i s) → g s l[i] = some s' → Q (.inl (head (i + 1) s')) → (step (head i s)).sat Q)
    (h3 : ∀ (s : S) (Q : L.T ⊕ Left2 E → Prop), Q (.inr (ex s)) → (step (head l.length s)).sat Q) :
    ∀ (k i : Nat) (s s' : S), i + k = l.length → foldO g s (l.drop i) = some s' → R (ex s') → Rnds2 L E step R (k + 1) (head i s)
  | 0, i, s, s', hk, hf, hr => by
    have e : i = l.length := by omega
    subst e
    rw [List.drop_length] at hf
    cases hf
    intro _
    exact h3 s _ (fun _ => hr)
  | k + 1, i, s, s', hk, hf, hr => by
    have hlt : i < l.length := by omega
    intro hw
    rw [List.drop_eq_getElem_cons hlt] at hf
    simp only [foldO] at hf
    cases hg : g s l[i] with
    | none => rw [hg] at hf; cases hf
    | some s1 =>
      rw [hg, Option.bind_some] at hf
      exact h1 i s s1 hlt _ hw hg (rnds2_foldO l head g ex h1 h3 k (i + 1) s1 s' (by omega) hf hr)
end
end V
end Go.Proofs.Ytgchccljmjmibaa
