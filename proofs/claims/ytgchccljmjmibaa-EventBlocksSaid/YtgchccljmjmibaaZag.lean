/- What all texts of the second edition use: short names, loops over lists. -/
import Derived.Test.YtgchccljmjmibaaVD
import Derived.Test.YtgchccljmjmibaaChecked
namespace Go.Proofs.Ytgchccljmjmibaa
open Go.RowKit
namespace V
abbrev cI : TC := .i .i64
abbrev W64 (n : Int) : Int := IntKind.i64.wrap n
theorem mixed : Try.prog.follows .mixedOrders = true := by kernel_rfl
theorem loops_one {P : Program} {f : Nat} {fn : Func} {lb : Code} {sum : St → Tree (XE × St)} {k : Nat} (hk : keyOf lb = k) (h1 : loopsOf (bodyOf fn) = [lb]) (h2 : LoopOk P f lb sum) :
    ∀ p ∈ [(f, fn)], ∀ d ∈ loopsOf (bodyOf p.2), ∀ g, assoc2 [((f, k), sum)] p.1 (keyOf d) = some g → LoopOk P p.1 d g := by
  intro p hp d hd g hg
  simp only [List.mem_singleton] at hp
  subst hp
  simp only at hd hg
  rw [h1, List.mem_singleton] at hd
  subst hd
  subst hk
  simp [assoc2] at hg
  subst hg
  exact h2
/-- the loops of some functions, by their summaries -/
theorem loops_all {P : Program} {fns : List (Nat × Func)} {loops : List ((Nat × Nat) × (St → Tree (XE × St)))} (h : ∀ p ∈ fns, ∀ d ∈ loopsOf (bodyOf p.2), ∀ g, assoc2 loops p.1 (keyOf d) = some g → LoopOk P p.1 d g) : ∀ p ∈ fns, ∀ d ∈ loopsOf (bodyOf p.2), ∀ g, assoc2 loops p.1 (keyOf d) = some g → LoopOk P p.1 d g := h
theorem W64_id {n : Int} (h : -9223372036854775808 ≤ n) (h2 : n ≤ 9223372036854775807) : W64 n = n := wrap_id h h2
theorem in64' {x : Int} (h : inK .i64 x) : -9223372036854775808 ≤ x ∧ x ≤ 9223372036854775807 := h
theorem W64_succ {i n : Nat} (h : i < n) (hn : (n : Int) ≤ maxK .i64) : W64 ((i : Int) + 1) = ((i + 1 : Nat) : Int) := by
  simp only [maxK] at hn
  rw [show W64 ((i : Int) + 1) = (i : Int) + 1 from wrap_id (by omega) (by omega)]; rfl

section
variable {L : Lay} {E : XE → Lay} {step : L.T → Tree (L.T ⊕ Left' E)} {R : Left' E → Prop} {S α : Type}
/-- a loop over a list, by what is done with an element -/
theorem forL (l : List α) (d : α) (hn : (l.length : Int) ≤ maxK .i64) (hd : Int → Int → S → L.T) (f : α → Nat → S → S ⊕ Left' E) (ex : S → Left' E) (Inv : S → Prop) (body : α → Int → S → Tree (L.T ⊕ Left' E))
    (hstep : ∀ (i : Int) (s : S), step (hd l.length i s) = bif decide (i < (l.length : Int)) then bif decide (0 ≤ i ∧ i < (l.length : Int)) then body (getA l i.toNat d) i s else .fail else .leaf (.inr (ex s)))
    (hbody : ∀ (i : Nat) (s : S) (hi : i < l.length) (Q : L.T ⊕ Left' E → Prop), Inv s → L.WF (hd l.length i s) → W64 ((i : Int) + 1) = ((i + 1 : Nat) : Int) → (match f l[i] i s with
      | .inl s' => Inv s' → Q (.inl (hd l.length ((i + 1 : Nat) : Int) s'))
      | .inr b => Q (.inr b)) → (body l[i] i s).sat Q) (s : S) (hs : Inv s) (hr : R (runL f ex l 0 s)) : ∃ n, Rnds L E step R n (hd l.length 0 s) := by
  refine ⟨_, rnds_runL l (fun i s => hd l.length i s) f ex Inv ?_ ?_ l.length 0 s (by omega) hs (by rw [List.drop_zero]; exact hr)⟩
  · intro i s hi Q hI hw hQ
    rw [hstep, decide_eq_true (show (i : Int) < l.length by omega), decide_eq_true (show 0 ≤ (i : Int) ∧ (i : Int) < l.length by omega), cond_true, cond_true]
    have ht : (i : Int).toNat = i := by omega
    rw [ht, getA_lt hi]
    exact hbody i s hi Q hI hw (W64_succ hi hn) hQ
  · intro s Q hI hQ
    rw [hstep, decide_eq_false (show ¬ (l.length : Int) < l.length by omega)]
    exact hQ
end
/-- a list that is looked at from its first element on -/
def atHead {β : Type} (n i : Int) (l : List β) : Bool := decide (n = (l.length : Int) ∧ i = 0)
theorem wfl_len {c : TC} {l : List (TCT c)} (h : WFD (.sl c) l) : (l.length : Int) ≤ maxK .i64 := by
  simp only [WFD] at h
  exact h.1
theorem wfl_mem {c : TC} {l : List (TCT c)} (h : WFD (.sl c) l) : ∀ x ∈ l, WFD c x := by
  simp only [WFD] at h
  exact h.2
theorem run_any {α B : Type} (p : α → Bool) (r : Nat → B) (e : B) : ∀ (l : List α) (i : Nat), runL (fun x i (_ : Unit) => bif p x then .inr (r i) else .inl ()) (fun _ => e) l i () = bif l.any p then r (i + l.findIdx p) else e
  | [], i => rfl
  | x :: l, i => by
    simp only [runL, List.any_cons, List.findIdx_cons]
    cases p x with
    | true => simp
    | false =>
      simp only [cond_false, Bool.false_or]
      rw [run_any p r e l (i + 1)]
      cases l.any p with
      | true => simp only [cond_true]; congr 1; omega
      | false => rfl
theorem any_idx {α : Type} (p : α → Bool) (l : List α) : decide ((bif l.any p then (l.findIdx p : Int) else -1) ≥ 0) = l.any p := by
  cases l.any p with
  | true => exact decide_eq_true (by simp only [cond_true]; omega)
  | false => rfl
/-- a contract by the tree that comes out -/
theorem kq_by {X : Ctx} (hX : CtxOk X) {f : FuncId} {ks : List SK} {rs : List TC} {ok : SKTs ks → Bool} {F : SKTs ks → TCTs rs} (m : Nat) (T : SKTs ks → Tree (TCTs rs))
    (e : ∀ x : SKTs ks, evFn X m (.fn f) (ofKs ks x 0) noHeap 0 (outK X.P rs) = T x) (h : ∀ x : SKTs ks, ok x = true → WFKs ks x → (T x).sat (fun y => y = F x)) : PureOk X.P f (kspec ks rs ok F) :=
  kq hX m fun x h1 h2 => sat_eq (e x) (h x h1 h2)
theorem run_fold {α B S : Type} (g : S → α → S) (ex : S → B) : ∀ (l : List α) (i : Nat) (s : S), runL (fun x _ s => (.inl (g s x) : S ⊕ B)) ex l i s = ex (l.foldl g s)
  | [], _, _ => rfl
  | x :: l, i, s => by simp only [runL, List.foldl_cons]; exact run_fold g ex l (i + 1) (g s x)
section
variable {L : Lay} {E : XE → Lay} {step : L.T → Tree (L.T ⊕ Left' E)} {R : Left' E → Prop} {S α : Type}
theorem rnds_fold (l : List α) (head : Nat → S → L.T) (g : S → α → S) (ex : S → Left' E) (Inv : Nat → S → Prop)
    (h1 : ∀ (i : Nat) (s : S) (hi : i < l.length) (Q : L.T ⊕ Left' E → Prop), Inv i s → L.WF (head i s) → (Inv (i + 1) (g s l[i]) → Q (.inl (head (i + 1) (g s l[i])))) → (step (head i s)).sat Q)
    (h3 : ∀ (s : S) (Q : L.T ⊕ Left' E → Prop), Inv l.length s → Q (.inr (ex s)) → (step (head l.length s)).sat Q) :
    ∀ (k i : Nat) (s : S), i + k = l.length → Inv i s → R (ex ((l.drop i).foldl g s)) → Rnds L E step R (k + 1) (head i s)
  | 0, i, s, hk, hi, hr => by
    have e : i = l.length := by omega
    subst e
    rw [List.drop_length] at hr
    intro _
    exact h3 s _ hi (fun _ => hr)
  | k + 1, i, s, hk, hi, hr => by
    have hlt : i < l.length := by omega
    intro hw
    rw [List.drop_eq_getElem_cons hlt] at hr
    exact h1 i s hlt _ hi hw fun hi' => rnds_fold l head g ex Inv h1 h3 k (i + 1) _ (by omega) hi' hr
/-- a loop over a whole list -/
theorem forFold (l : List α) (d : α) (hn : (l.length : Int) ≤ maxK .i64) (hd : Int → Int → S → L.T) (g : S → α → S) (ex : S → Left' E) (Inv : Nat → S → Prop) (body : α → Int → S → Tree (L.T ⊕ Left' E))
    (hstep : ∀ (i : Int) (s : S), step (hd l.length i s) = bif decide (i < (l.length : Int)) then bif decide (0 ≤ i ∧ i < (l.length : Int)) then body (getA l i.toNat d) i s else .fail else .leaf (.inr (ex s)))
    (hbody : ∀ (i : Nat) (s : S) (hi : i < l.length) (Q : L.T ⊕ Left' E → Prop), Inv i s → L.WF (hd l.length i s) → W64 ((i : Int) + 1) = ((i + 1 : Nat) : Int) → (Inv (i + 1) (g s l[i]) → Q (.inl (hd l.length ((i + 1 : Nat) : Int) (g s l[i])))) → (body l[i] i s).sat Q)
    (s : S) (hs : Inv 0 s) (hr : R (ex (l.foldl g s))) : ∃ n, Rnds L E step R n (hd l.length 0 s) := by
  refine ⟨_, rnds_fold l (fun i s => hd l.length i s) g ex Inv ?_ ?_ l.length 0 s (by omega) hs (by rw [List.drop_zero]; exact hr)⟩
  · intro i s hi Q hI hw hQ
    rw [hstep, decide_eq_true (show (i : Int) < l.length by omega), decide_eq_true (show 0 ≤ (i : Int) ∧ (i : Int) < l.length by omega), cond_true, cond_true]
    have ht : (i : Int).toNat = i := by omega
    rw [ht, getA_lt hi]
    exact hbody i s hi Q hI hw (W64_succ hi hn) hQ
  · intro s Q hI hQ
    rw [hstep, decide_eq_false (show ¬ (l.length : Int) < l.length by omega)]
    exact hQ
end
/-- a context in which loops without a summary are walked a number of times at most -/
def ctxU (u : Nat) (P : Program) (pu : List (Nat × PureT)) (fns : List (Nat × Func)) : Ctx := { P := P, u := u, fns := fns, loops := [], pures := pu, specs := [] }
theorem ctxU_ok {u : Nat} {P : Program} (hm : P.follows .mixedOrders = true) {pu : List (Nat × PureT)} {fns : List (Nat × Func)} (hp : PuOk P pu) (hf : ∀ p ∈ fns, FnIs P p) : CtxOk (ctxU u P pu fns) :=
  ⟨hm, hp, fun p h => ⟨(hf p h).1, (hf p h).2.1, fun _ _ _ _ _ h => by simp [ctxU, assoc2] at h⟩, fun p h => by simp [ctxU] at h⟩
/-- a contract of a function that panics, by the tree that comes out -/
theorem kqP_by {X : Ctx} (hX : CtxOk X) {f : FuncId} {ks : List SK} {rs : List TC} {ok : SKTs ks → Bool} {F : SKTs ks → TCTs rs} {p : TypeId × IntKind × Int} (m : Nat) (hin : inKB p.2.1 p.2.2 = true) (T : SKTs ks → Tree (Option (TCTs rs)))
    (e : ∀ x : SKTs ks, evFn X m (.fn f) (ofKs ks x 0) noHeap 0 (outP X.P rs p) = T x) (h : ∀ x : SKTs ks, WFKs ks x → (T x).sat (fun y => y = bif ok x then some (F x) else none)) : PureOk X.P f (kspecP ks rs ok F p) ∧ PanOk X.P f (kspecP ks rs ok F p) :=
  kqP hX m hin fun x h2 => sat_eq (e x) (h x h2)
/-- a fold that may fail -/
def foldO {S α : Type} (g : S → α → Option S) : S → List α → Option S
  | s, [] => some s
  | s, x :: l => (g s x).bind fun s' => foldO g s' l
theorem foldO_append {S α : Type} (g : S → α → Option S) : ∀ (l m : List α) (s : S), foldO g s (l ++ m) = (foldO g s l).bind fun s' => foldO g s' m
  | [], _, _ => rfl
  | x :: l, m, s => by
    simp only [List.cons_append, foldO]
    cases g s x with
    | none => rfl
    | some s' => exact foldO_append g l m s'
theorem foldO_flat {S α β : Type} (g : S → α → Option S) (f : β → List α) : ∀ (l : List β) (s : S), foldO g s (l.flatMap f) = foldO (fun s x => foldO g s (f x)) s l
  | [], _ => rfl
  | x :: l, s => by
    rw [List.flatMap_cons, foldO_append]
    simp only [foldO]
    cases foldO g s (f x) with
    | none => rfl
    | some s' => exact foldO_flat g f l s'
section
variable {L : Lay2} {E : XE → Lay2} {step : L.T → Tree (L.T ⊕ Left2 E)} {R : Left2 E → Prop} {S α : Type}
theorem rnds2_foldO (l : List α) (head : Nat → S → L.T) (g : S → α → Option S) (ex : S → Left2 E)
    (h1 : ∀ (i : Nat) (s s' : S) (hi : i < l.length) (Q : L.T ⊕ Left2 E → Prop), L.WF (head i s) → g s l[i] = some s' → Q (.inl (head (i + 1) s')) → (step (head i s)).sat Q)
    (h3 : ∀ (s : S) (Q : L.T ⊕ Left2 E → Prop), Q (.inr (ex s)) → (step (head l.length s)).sat Q) :
    ∀ (k i : Nat) (s s' : S), i + k = l.length → foldO g s (l.drop i) = some s' → R (ex s') → Rnds2 L E step R (k + 1) (head i s)
  | 0, i, s, s', hk, hf, hr => by
    have e : i = l.length := by omega
    subst e
    rw [List.drop_length] at hf
    cases hf
    intro _
    exact h3 s _ (fun _ => hr)
  | k + 1, i, s, s', hk, hf, hr => by
    have hlt : i < l.length := by omega
    intro hw
    rw [List.drop_eq_getElem_cons hlt] at hf
    simp only [foldO] at hf
    cases hg : g s l[i] with
    | none => rw [hg] at hf; cases hf
    | some s1 =>
      rw [hg, Option.bind_some] at hf
      exact h1 i s s1 hlt _ hw hg (rnds2_foldO l head g ex h1 h3 k (i + 1) s1 s' (by omega) hf hr)
end
end V
end Go.Proofs.Ytgchccljmjmibaa
/-! Loops by their rounds: a loop's summary is the run of its step, whatever it comes to. -/
namespace Go.Proofs.Ytgchccljmjmibaa
open Go.RowKit
namespace V
/-- what a tree without conditions left open comes to -/
def Tree.run {α : Type} : Tree α → Option α
  | .leaf a => some a
  | .need _ _ => none
  | .br c t e => bif c then t.run else e.run
  | .fail => none
theorem Tree.sat_run {α : Type} {R : α → Prop} : ∀ {t : Tree α} {a : α}, t.run = some a → R a → t.sat R
  | .leaf b, a, h, hr => by cases h; exact hr
  | .need _ _, _, h, _ => by cases h
  | .br c t e, a, h, hr => by
    simp only [Tree.run] at h
    cases c with
    | true => exact ⟨fun _ => Tree.sat_run h hr, fun h => nomatch h⟩
    | false => exact ⟨(fun h => nomatch h), fun _ => Tree.sat_run h hr⟩
  | .fail, _, h, _ => by cases h
/-- rounds of a step -/
def iter {G E : Type} (st : G → Tree (G ⊕ E)) : Nat → G → Option E
  | 0, _ => none
  | n + 1, g => match (st g).run with
    | some (.inl g') => iter st n g'
    | some (.inr e) => some e
    | none => none
theorem iter_in {G E : Type} {st : G → Tree (G ⊕ E)} {n : Nat} {g g' : G} (h : (st g).run = some (.inl g')) : iter st (n + 1) g = iter st n g' := by
  simp only [iter]
  rw [h]
theorem iter_out {G E : Type} {st : G → Tree (G ⊕ E)} {n : Nat} {g : G} {e : E} (h : (st g).run = some (.inr e)) : iter st (n + 1) g = some e := by
  simp only [iter]
  rw [h]
theorem rnds_iter {L : Lay} {E : XE → Lay} {st : L.T → Tree (L.T ⊕ Left' E)} {R : Left' E → Prop} : ∀ (n : Nat) (g : L.T) (e : Left' E), iter st n g = some e → R e → Rnds L E st R n g
  | 0, _, _, h, _ => by cases h
  | n + 1, g, e, h, hr => by
    intro _
    simp only [iter] at h
    cases hs : (st g).run with
    | none => rw [hs] at h; cases h
    | some x =>
      rw [hs] at h
      refine Tree.sat_run hs ?_
      cases x with
      | inl g' => exact rnds_iter n g' e h hr
      | inr x => cases h; exact fun _ => hr
mutual
def dflK : (k : SK) → SKT k
  | .d c => dflt c
  | .o _ _ => []
  | .p _ _ _ _ => ()
  | .sli _ _ _ _ _ => ()
  | .r c _ => dflt c
  | .f _ a c => (dflKs a, dflKs c)
  | .ag ks => dflKs ks
  | .y _ => ()
  | .q _ => ()
  | .m _ _ => fun _ => none
  | .i _ _ => 0
  | .w _ _ _ => []
def dflKs : (ks : List SK) → SKTs ks
  | [] => ()
  | k :: ks => (dflK k, dflKs ks)
end
def dflB : (bs : List BK) → BTs bs
  | [] => ()
  | b :: bs => (dflKs b.2.2, dflB bs)
def Lay.dfl (L : Lay) : L.T := (dflKs L.ks, dflB L.bs)
/-- the state behind a loop that is left so -/
def castE (E : XE → Lay) : (e : XE) → Left' E → Option (E e).T
  | .normal, ⟨.normal, v⟩ => some v
  | .ret, ⟨.ret, v⟩ => some v
  | .exit i, ⟨.exit j, v⟩ => if h : j = i then some (h ▸ v) else none
  | _, _ => none
theorem castE_eq {E : XE → Lay} {e : XE} {y : Left' E} {v : (E e).T} (h : castE E e y = some v) : y = ⟨e, v⟩ := by
  unfold castE at h
  split at h
  · cases h; rfl
  · cases h; rfl
  · rename_i i j v'
    split at h
    · rename_i hij
      subst hij
      cases h; rfl
    · cases h
  · cases h
def isE {E : XE → Lay} (e : XE) (y : Option (Left' E)) : Bool := match y with
  | some y => (castE E e y).isSome
  | none => false
def valE {E : XE → Lay} (e : XE) (y : Option (Left' E)) : (E e).T := match y with
  | some y => (castE E e y).getD (E e).dfl
  | none => (E e).dfl
theorem isE_eq {E : XE → Lay} {e : XE} {y : Option (Left' E)} (h : isE e y = true) : y = some ⟨e, valE e y⟩ := by
  unfold isE at h
  split at h
  · rename_i z
    cases hc : castE E e z with
    | none => rw [hc] at h; cases h
    | some v =>
      have := castE_eq hc
      subst this
      simp only [valE, hc, Option.getD_some]
  · cases h
def outE {E : XE → Lay} (y : Option (Left' E)) : List XE → Tree (Left' E)
  | [] => .fail
  | e :: es => .br (isE e y) (.leaf ⟨e, valE e y⟩) (outE y es)
theorem outE_sat {E : XE → Lay} {y : Option (Left' E)} {R : Left' E → Prop} : ∀ {es : List XE}, (outE y es).sat R → ∃ e, y = some e ∧ R e
  | [], h => h.elim
  | e :: es, h => by
    obtain ⟨h1, h2⟩ := h
    cases hi : isE e y with
    | true => exact ⟨_, isE_eq hi, h1 hi⟩
    | false => exact outE_sat (h2 hi)
/-- the summary: the run of the step -/
def finX {L : Lay} {E : XE → Lay} (es : List XE) (st : L.T → Tree (L.T ⊕ Left' E)) (fuel : L.T → Nat) (g : L.T) : Tree (Left' E) := outE (iter st (fuel g) g) es
theorem loopOk_x {X : Ctx} (hX : CtxOk X) (m : Nat) (fn : FuncId) (Lt : LoopT) {c : Code} (hL : ∀ d ∈ loopsOf c, ∀ f, Lt (keyOf d) = some f → LoopOk X.P fn d f) (L : Lay) (E : XE → Lay) (hE : ∀ e, L.nx ≤ (E e).nx) (es : List XE) (st : L.T → Tree (L.T ⊕ Left' E)) (fuel : L.T → Nat)
    (hstep : ∀ g, evC X.P (evFn X m) X.pures fn X.u Lt c (L.of g) (stepOut L E) = st g) : LoopOk X.P fn c (loopSum L E (finX es st fuel)) := by
  refine loopOk_of hX m fn Lt hL L E hE (finX es st fuel) st hstep ?_
  intro g R _ hf
  obtain ⟨e, he, hr⟩ := outE_sat hf
  exact ⟨_, rnds_iter _ g e he hr⟩
/-- a loop without loops in it -/
theorem loopOk_x0 {X : Ctx} (hX : CtxOk X) (m : Nat) (fn : FuncId) {c : Code} (L : Lay) (E : XE → Lay) (hE : ∀ e, L.nx ≤ (E e).nx) (es : List XE) (st : L.T → Tree (L.T ⊕ Left' E)) (fuel : L.T → Nat)
    (hstep : ∀ g, evC X.P (evFn X m) X.pures fn X.u (fun _ => none) c (L.of g) (stepOut L E) = st g) : LoopOk X.P fn c (loopSum L E (finX es st fuel)) :=
  loopOk_x hX m fn (fun _ => none) (fun _ _ f h => by simp at h) L E hE es st fuel hstep
/-! loops that are left by a panic -/
def castP (E : XE → Lay) (t : TypeId) (k : IntKind) : Left' E → Option ((n : Int) × (E (.panic (.ifc t (.int k n)))).T)
  | ⟨.panic (.ifc t' (.int k' n)), v⟩ => if h : t' = t then if h2 : k' = k then some ⟨n, h ▸ h2 ▸ v⟩ else none else none
  | _ => none
theorem castP_eq {E : XE → Lay} {t : TypeId} {k : IntKind} {y : Left' E} {p : (n : Int) × (E (.panic (.ifc t (.int k n)))).T} (h : castP E t k y = some p) : y = ⟨.panic (.ifc t (.int k p.1)), p.2⟩ := by
  unfold castP at h
  split at h
  · rename_i t' k' n v
    split at h
    · rename_i h1
      subst h1
      split at h
      · rename_i h2
        subst h2
        cases h
        rfl
      · cases h
    · cases h
  · cases h
def isP {E : XE → Lay} (t : TypeId) (k : IntKind) (y : Option (Left' E)) : Bool := match y with
  | some y => (castP E t k y).isSome
  | none => false
def panO {E : XE → Lay} (t : TypeId) (k : IntKind) (y : Option (Left' E)) : (n : Int) × (E (.panic (.ifc t (.int k n)))).T := match y with
  | some y => (castP E t k y).getD ⟨0, (E (.panic (.ifc t (.int k 0)))).dfl⟩
  | none => ⟨0, (E (.panic (.ifc t (.int k 0)))).dfl⟩
theorem castP_some {E : XE → Lay} {t : TypeId} {k : IntKind} {n : Int} {v : (E (.panic (.ifc t (.int k n)))).T} : castP E t k ⟨.panic (.ifc t (.int k n)), v⟩ = some ⟨n, v⟩ := by simp [castP]
theorem isP_some {E : XE → Lay} {t : TypeId} {k : IntKind} {n : Int} {v : (E (.panic (.ifc t (.int k n)))).T} : isP t k (some (⟨.panic (.ifc t (.int k n)), v⟩ : Left' E)) = true := by simp only [isP, castP_some, Option.isSome_some]
theorem panO_some {E : XE → Lay} {t : TypeId} {k : IntKind} {n : Int} {v : (E (.panic (.ifc t (.int k n)))).T} : panO t k (some (⟨.panic (.ifc t (.int k n)), v⟩ : Left' E)) = ⟨n, v⟩ := by simp only [panO, castP_some, Option.getD_some]
theorem isP_eq {E : XE → Lay} {t : TypeId} {k : IntKind} {y : Option (Left' E)} (h : isP t k y = true) : y = some ⟨.panic (.ifc t (.int k (panO t k y).1)), (panO t k y).2⟩ := by
  unfold isP at h
  split at h
  · rename_i z
    cases hc : castP E t k z with
    | none => rw [hc] at h; cases h
    | some v =>
      have := castP_eq hc
      subst this
      obtain ⟨n, v⟩ := v
      rw [panO_some]
  · cases h
/-- the summary, a panic among the ends -/
def finP {L : Lay} {E : XE → Lay} (t : TypeId) (k : IntKind) (es : List XE) (st : L.T → Tree (L.T ⊕ Left' E)) (fuel : L.T → Nat) (g : L.T) : Tree (Left' E) :=
  .br (isP t k (iter st (fuel g) g)) (.leaf ⟨.panic (.ifc t (.int k (panO t k (iter st (fuel g) g)).1)), (panO t k (iter st (fuel g) g)).2⟩) (outE (iter st (fuel g) g) es)
theorem loopOk_p {X : Ctx} (hX : CtxOk X) (m : Nat) (fn : FuncId) (Lt : LoopT) {c : Code} (hL : ∀ d ∈ loopsOf c, ∀ f, Lt (keyOf d) = some f → LoopOk X.P fn d f) (L : Lay) (E : XE → Lay) (hE : ∀ e, L.nx ≤ (E e).nx) (t : TypeId) (k : IntKind) (es : List XE) (st : L.T → Tree (L.T ⊕ Left' E)) (fuel : L.T → Nat)
    (hstep : ∀ g, evC X.P (evFn X m) X.pures fn X.u Lt c (L.of g) (stepOut L E) = st g) : LoopOk X.P fn c (loopSum L E (finP t k es st fuel)) := by
  refine loopOk_of hX m fn Lt hL L E hE (finP t k es st fuel) st hstep ?_
  intro g R _ hf
  obtain ⟨h1, h2⟩ := hf
  cases hp : isP t k (iter st (fuel g) g) with
  | true => exact ⟨_, rnds_iter _ g _ (isP_eq hp) (h1 hp)⟩
  | false =>
    obtain ⟨e, he, hr⟩ := outE_sat (h2 hp)
    exact ⟨_, rnds_iter _ g e he hr⟩
theorem loopOk_p0 {X : Ctx} (hX : CtxOk X) (m : Nat) (fn : FuncId) {c : Code} (L : Lay) (E : XE → Lay) (hE : ∀ e, L.nx ≤ (E e).nx) (t : TypeId) (k : IntKind) (es : List XE) (st : L.T → Tree (L.T ⊕ Left' E)) (fuel : L.T → Nat)
    (hstep : ∀ g, evC X.P (evFn X m) X.pures fn X.u (fun _ => none) c (L.of g) (stepOut L E) = st g) : LoopOk X.P fn c (loopSum L E (finP t k es st fuel)) :=
  loopOk_p hX m fn (fun _ => none) (fun _ _ f h => by simp at h) L E hE t k es st fuel hstep
section
variable {G E S α : Type} {st : G → Tree (G ⊕ E)}
/-- a loop over a list by its rounds -/
def runO (f : Nat → α → S → Option (S ⊕ E)) (ex : S → Option E) : Nat → List α → S → Option E
  | _, [], s => ex s
  | i, x :: l, s => match f i x s with
    | some (.inl s') => runO f ex (i + 1) l s'
    | some (.inr e) => some e
    | none => none
theorem iter_list (l : List α) (hd : Nat → S → G) (f : Nat → α → S → Option (S ⊕ E)) (ex : S → Option E) (Inv : Nat → S → Prop)
    (h1 : ∀ (i : Nat) (s : S) (hi : i < l.length), Inv i s → match f i l[i] s with
      | some (.inl s') => (st (hd i s)).run = some (.inl (hd (i + 1) s')) ∧ Inv (i + 1) s'
      | some (.inr e) => (st (hd i s)).run = some (.inr e)
      | none => True)
    (h2 : ∀ s e, Inv l.length s → ex s = some e → (st (hd l.length s)).run = some (.inr e)) :
    ∀ (k i : Nat) (s : S) (e : E) (n : Nat), i + k = l.length → k + 1 ≤ n → Inv i s → runO f ex i (l.drop i) s = some e → iter st n (hd i s) = some e
  | 0, i, s, e, n, hk, hn, hi, hr => by
    have e1 : i = l.length := by omega
    subst e1
    rw [List.drop_length] at hr
    cases n with
    | zero => omega
    | succ n => exact iter_out (h2 s e hi hr)
  | k + 1, i, s, e, n, hk, hn, hi, hr => by
    have hlt : i < l.length := by omega
    rw [List.drop_eq_getElem_cons hlt] at hr
    have h := h1 i s hlt hi
    simp only [runO] at hr
    cases n with
    | zero => omega
    | succ n =>
      cases hf : f i l[i] s with
      | none => rw [hf] at hr; cases hr
      | some x =>
        rw [hf] at hr h
        cases x with
        | inl s' =>
          rw [iter_in h.1]
          exact iter_list l hd f ex Inv h1 h2 k (i + 1) s' e n (by omega) (by omega) h.2 hr
        | inr e' =>
          cases hr
          exact iter_out h
/-- a loop that counts -/
theorem iter_inv (hd : Nat → S → G) (f : Nat → S → S) (ex : S → E) (Inv : Nat → S → Prop) (m : Nat)
    (h1 : ∀ (i : Nat) (s : S), i < m → Inv i s → (st (hd i s)).run = some (.inl (hd (i + 1) (f i s))) ∧ Inv (i + 1) (f i s))
    (h2 : ∀ s, Inv m s → (st (hd m s)).run = some (.inr (ex s))) :
    ∀ (k i : Nat) (s : S) (n : Nat), i + k = m → k + 1 ≤ n → Inv i s → ∃ s', Inv m s' ∧ iter st n (hd i s) = some (ex s') ∧ s' = (List.range' i k).foldl (fun s j => f j s) s
  | 0, i, s, n, hk, hn, hi => by
    have e1 : i = m := by omega
    subst e1
    cases n with
    | zero => omega
    | succ n => exact ⟨s, hi, iter_out (h2 s hi), rfl⟩
  | k + 1, i, s, n, hk, hn, hi => by
    obtain ⟨h3, h4⟩ := h1 i s (by omega) hi
    cases n with
    | zero => omega
    | succ n =>
      rw [iter_in h3]
      obtain ⟨s', q1, q2, q3⟩ := iter_inv hd f ex Inv m h1 h2 k (i + 1) (f i s) n (by omega) (by omega) h4
      exact ⟨s', q1, q2, by rw [q3, List.range'_succ, List.foldl_cons]⟩
end
/-- a list is looked through for the first element with a property -/
theorem runO_any {α E : Type} (p : α → Bool) (r : Nat → E) (d : E) : ∀ (l : List α) (i : Nat), runO (fun i x (_ : Unit) => bif p x then some (.inr (r i)) else some (.inl ())) (fun _ => some d) i l () = some (bif l.any p then r (i + l.findIdx p) else d)
  | [], i => rfl
  | x :: l, i => by
    simp only [runO, List.any_cons, List.findIdx_cons]
    cases p x with
    | true => simp
    | false =>
      simp only [cond_false, Bool.false_or]
      rw [runO_any p r d l (i + 1)]
      cases l.any p with
      | true => simp only [cond_true]; congr 2; omega
      | false => rfl
/-- a bounded look at a list's element, as the loops over lists have it -/
def forS {β : Type} (n i : Int) (body ex : Tree β) : Tree β := bif decide (i < n) then bif decide (0 ≤ i ∧ i < n) then body else .fail else ex
theorem forS_in {β : Type} {n i : Int} {body ex : Tree β} (h0 : 0 ≤ i) (h : i < n) : forS n i body ex = body := by
  unfold forS
  rw [decide_eq_true h, decide_eq_true ⟨h0, h⟩]; rfl
theorem forS_out {β : Type} {n i : Int} {body ex : Tree β} (h : n ≤ i) : forS n i body ex = ex := by
  unfold forS
  rw [decide_eq_false (show ¬ i < n by omega)]; rfl
/-- two lists of one length, element by element -/
def eqL {α : Type} (eq : α → α → Bool) (u v : List α) : Bool := (u.zip v).all fun p => eq p.1 p.2
theorem eqL_cons {α : Type} (eq : α → α → Bool) (x y : α) (u v : List α) : eqL eq (x :: u) (y :: v) = (eq x y && eqL eq u v) := rfl
theorem eqL_refl {α : Type} {eq : α → α → Bool} (h : ∀ x, eq x x = true) : ∀ u : List α, eqL eq u u = true
  | [] => rfl
  | x :: u => by rw [eqL_cons, h, eqL_refl h u]; rfl
theorem eqL_iff {α : Type} {eq : α → α → Bool} (h : ∀ x y, eq x y = true ↔ x = y) : ∀ {u v : List α}, u.length = v.length → (eqL eq u v = true ↔ u = v)
  | [], [], _ => by simp [eqL]
  | x :: u, y :: v, hl => by
    rw [eqL_cons, Bool.and_eq_true, h, eqL_iff h (by simpa using hl), List.cons.injEq]
theorem iter_same {α G E : Type} {st : G → Tree (G ⊕ E)} {u v : List α} (hl : u.length = v.length) (eq : α → α → Bool) (hd : Nat → G) (rt ex : E)
    (h1 : ∀ (i : Nat) (hi : i < u.length) (hj : i < v.length), (st (hd i)).run = some (bif eq u[i] v[i] then .inl (hd (i + 1)) else .inr rt))
    (h2 : (st (hd u.length)).run = some (.inr ex)) : ∀ (k i n : Nat), i + k = u.length → k + 1 ≤ n → iter st n (hd i) = some (bif eqL eq (u.drop i) (v.drop i) then ex else rt)
  | 0, i, n, hk, hn => by
    have e1 : i = u.length := by omega
    subst e1
    cases n with
    | zero => omega
    | succ n => rw [iter_out h2, List.drop_length]; rfl
  | k + 1, i, n, hk, hn => by
    have hi : i < u.length := by omega
    cases n with
    | zero => omega
    | succ n =>
      rw [List.drop_eq_getElem_cons hi, List.drop_eq_getElem_cons (by omega : i < v.length), eqL_cons]
      have h := h1 i hi (by omega)
      cases he : eq u[i] v[i] with
      | true =>
        rw [he] at h
        rw [iter_in h, iter_same hl eq hd rt ex h1 h2 k (i + 1) n (by omega) (by omega)]
        rfl
      | false =>
        rw [he] at h
        rw [iter_out h]
        rfl
theorem isE_some {E : XE → Lay} {e : XE} {v : (E e).T} (h : castE E e ⟨e, v⟩ = some v) : isE e (some (⟨e, v⟩ : Left' E)) = true := by
  unfold isE
  simp only [h]; rfl
theorem run_leaf {α : Type} (a : α) : (Tree.leaf a).run = some a := rfl
end V
end Go.Proofs.Ytgchccljmjmibaa
/-! Contracts without a thought: a function of plain data is what its walk comes to. -/
namespace Go.Proofs.Ytgchccljmjmibaa
open Go.RowKit
namespace V
/-- a contract: what the walk comes to, where it comes to an end -/
noncomputable def auto (X : Ctx) (m : Nat) (f : FuncId) (cs rs : List TC) : PureT := tspec cs rs (fun x => evFn X m (.fn f) (encAs cs x) noHeap 0 (outK X.P rs))
theorem auto_ok {X : Ctx} (hX : CtxOk X) (m : Nat) (f : FuncId) (cs rs : List TC) : PureOk X.P f (auto X m f cs rs) := q_tree hX m fun _ => rfl
/-- a contract by the walk at some data alone: T is the walk, T' what it comes to there -/
theorem q_by2 {X : Ctx} (hX : CtxOk X) {f : FuncId} {cs rs : List TC} {ok : TCTs cs → Bool} {F : TCTs cs → TCTs rs} (m : Nat) (T T' : TCTs cs → Tree (TCTs rs))
    (hT : ∀ x : TCTs cs, evFn X m (.fn f) (encAs cs x) noHeap 0 (outK X.P rs) = T x) (h1 : ∀ x, ok x = true → T x = T' x) (h2 : ∀ x, ok x = true → WFDs cs x → (T' x).sat (fun y => y = F x)) : PureOk X.P f (spec cs rs ok F) :=
  q_by hX m T hT fun x h hw => by rw [h1 x h]; exact h2 x h hw
/-- all functions of a context are the program's -/
theorem fns_all {P : Program} {fns : List (Nat × Func)} (h : ∀ p ∈ fns, FnIs P p) : ∀ p ∈ fns, FnIs P p := h
end V
end Go.Proofs.Ytgchccljmjmibaa
/-! Contracts whose results are worked out: for walks of closed code, where numbers would pile up as sums of sums. -/
namespace Go.Proofs.Ytgchccljmjmibaa
open Go.RowKit
namespace V
/-- a contract by the walk, its result worked out -/
noncomputable def autoF (X : Ctx) (m : Nat) (f : FuncId) (cs rs : List TC) : PureT :=
  { run := fun l => match decAs cs l with
      | some x => fcTs cs x fun x => fcTs rs ((evFn X m (.fn f) (encAs cs x) noHeap 0 (outK X.P rs)).val (dflts rs)) fun y => some ((evFn X m (.fn f) (encAs cs x) noHeap 0 (outK X.P rs)).isLeaf, encR rs y)
      | none => none
    flat := noSls rs }
theorem autoF_eq (X : Ctx) (m : Nat) (f : FuncId) (cs rs : List TC) : autoF X m f cs rs = auto X m f cs rs := by
  unfold autoF auto tspec spec
  congr 1
  funext l
  cases decAs cs l with
  | none => rfl
  | some x => simp only [fcTs_eq]
theorem autoF_ok {X : Ctx} (hX : CtxOk X) (m : Nat) (f : FuncId) (cs rs : List TC) : PureOk X.P f (autoF X m f cs rs) := by
  rw [autoF_eq]; exact auto_ok hX m f cs rs
end V
end Go.Proofs.Ytgchccljmjmibaa
