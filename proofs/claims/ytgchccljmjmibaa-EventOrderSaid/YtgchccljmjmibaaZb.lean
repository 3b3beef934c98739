/- Loops by their rounds: a loop's summary is the run of its step, whatever it comes to. -/
import Derived.Test.YtgchccljmjmibaaZa
namespace Go.Proofs.Ytgchccljmjmibaa
open Go.RowKit
namespace V
/-- what a tree without conditions left open comes to -/
def Tree.run {α : Type} : Tree α → Option α
  | .leaf a => some a
  | .need _ _ => none
  | .br c t e => bif c then t.run else e.run
  | .fail => none
theorem Tree.sat_run {α : Type} {R : α → Prop} : ∀ {t : Tree α} {a : α}, t.run = some a → R a → t.sat R
  | .leaf b, a, h, hr => by cases h; exact hr
  | .need _ _, _, h, _ => by cases h
  | .br c t e, a, h, hr => by
    simp only [Tree.run] at h
    cases c with
    | true => exact ⟨fun _ => Tree.sat_run h hr, fun h => nomatch h⟩
    | false => exact ⟨(fun h => nomatch h), fun _ => Tree.sat_run h hr⟩
  | .fail, _, h, _ => by cases h
/-- rounds of a step -/
def iter {G E : Type} (st : G → Tree (G ⊕ E)) : Nat → G → Option E
  | 0, _ => none
  | n + 1, g => match (st g).run with
    | some (.inl g') => iter st n g'
    | some (.inr e) => some e
    | none => none
theorem iter_in {G E : Type} {st : G → Tree (G ⊕ E)} {n : Nat} {g g' : G} (h : (st g).run = some (.inl g')) : iter st (n + 1) g = iter st n g' := by
  simp only [iter]
  rw [h]
theorem iter_out {G E : Type} {st : G → Tree (G ⊕ E)} {n : Nat} {g : G} {e : E} (h : (st g).run = some (.inr e)) : iter st (n + 1) g = some e := by
  simp only [iter]
  rw [h]
theorem rnds_iter {L : Lay} {E : XE → Lay} {st : L.T → Tree (L.T ⊕ Left' E)} {R : Left' E → Prop} : ∀ (n : Nat) (g : L.T) (e : Left' E), iter st n g = some e → R e → Rnds L E st R n g
  | 0, _, _, h, _ => by cases h
  | n + 1, g, e, h, hr => by
    intro _
    simp only [iter] at h
    cases hs : (st g).run with
    | none => rw [hs] at h; cases h
    | some x =>
      rw [hs] at h
      refine Tree.sat_run hs ?_
      cases x with
      | inl g' => exact rnds_iter n g' e h hr
      | inr x => cases h; exact fun _ => hr
mutual
def dflK : (k : SK) → SKT k
  | .d c => dflt c
  | .o _ _ => []
  | .p _ _ _ _ => ()
  | .sli _ _ _ _ _ => ()
  | .r c _ => dflt c
  | .f _ a c => (dflKs a, dflKs c)
  | .ag ks => dflKs ks
  | .y _ => ()
  | .q _ => ()
  | .m _ _ => fun _ => none
  | .i _ _ => 0
  | .w _ _ _ => []
def dflKs : (ks : List SK) → SKTs ks
  | [] => ()
  | k :: ks => (dflK k, dflKs ks)
end
def dflB : (bs : List BK) → BTs bs
  | [] => ()
  | b :: bs => (dflKs b.2.2, dflB bs)
def Lay.dfl (L : Lay) : L.T := (dflKs L.ks, dflB L.bs)
/-- the state behind a loop that is left so -/
def castE (E : XE → Lay) : (e : XE) → Left' E → Option (E e).T
  | .normal, ⟨.normal, v⟩ => some v
  | .ret, ⟨.ret, v⟩ => some v
  | .exit i, ⟨.exit j, v⟩ => if h : j = i then some (h ▸ v) else none
  | _, _ => none
theorem castE_eq {E : XE → Lay} {e : XE} {y : Left' E} {v : (E e).T} (h : castE E e y = some v) : y = ⟨e, v⟩ := by
  unfold castE at h
  split at h
  · cases h; rfl
  · cases h; rfl
  · rename_i i j v'
    split at h
    · rename_i hij
      subst hij
      cases h; rfl
    · cases h
  · cases h
def isE {E : XE → Lay} (e : XE) (y : Option (Left' E)) : Bool := match y with
  | some y => (castE E e y).isSome
  | none => false
def valE {E : XE → Lay} (e : XE) (y : Option (Left' E)) : (E e).T := match y with
  | some y => (castE E e y).getD (E e).dfl
  | none => (E e).dfl
theorem isE_eq {E : XE → Lay} {e : XE} {y : Option (Left' E)} (h : isE e y = true) : y = some ⟨e, valE e y⟩ := by
  unfold isE at h
  split at h
  · rename_i z
    cases hc : castE E e z with
    | none => rw [hc] at h; cases h
    | some v =>
      have := castE_eq hc
      subst this
      simp only [valE, hc, Option.getD_some]
  · cases h
def outE {E : XE → Lay} (y : Option (Left' E)) : List XE → Tree (Left' E)
  | [] => .fail
  | e :: es => .br (isE e y) (.leaf ⟨e, valE e y⟩) (outE y es)
theorem outE_sat {E : XE → Lay} {y : Option (Left' E)} {R : Left' E → Prop} : ∀ {es : List XE}, (outE y es).sat R → ∃ e, y = some e ∧ R e
  | [], h => h.elim
  | e :: es, h => by
    obtain ⟨h1, h2⟩ := h
    cases hi : isE e y with
    | true => exact ⟨_, isE_eq hi, h1 hi⟩
    | false => exact outE_sat (h2 hi)
/-- the summary: the run of the step -/
def finX {L : Lay} {E : XE → Lay} (es : List XE) (st : L.T → Tree (L.T ⊕ Left' E)) (fuel : L.T → Nat) (g : L.T) : Tree (Left' E) := outE (iter st (fuel g) g) es
theorem loopOk_x {X : Ctx} (hX : CtxOk X) (m : Nat) (fn : FuncId) (Lt : LoopT) {c : Code} (hL : ∀ d ∈ loopsOf c, ∀ f, Lt (keyOf d) = some f → LoopOk X.P fn d f) (L : Lay) (E : XE → Lay) (hE : ∀ e, L.nx ≤ (E e).nx) (es : List XE) (st : L.T → Tree (L.T ⊕ Left' E)) (fuel : L.T → Nat)
    (hstep : ∀ g, evC X.P (evFn X m) X.pures fn X.u Lt c (L.of g) (stepOut L E) = st g) : LoopOk X.P fn c (loopSum L E (finX es st fuel)) := by
  refine loopOk_of hX m fn Lt hL L E hE (finX es st fuel) st hstep ?_
  intro g R _ hf
  obtain ⟨e, he, hr⟩ := outE_sat hf
  exact ⟨_, rnds_iter _ g e he hr⟩
/-- a loop without loops in it -/
theorem loopOk_x0 {X : Ctx} (hX : CtxOk X) (m : Nat) (fn : FuncId) {c : Code} (L : Lay) (E : XE → Lay) (hE : ∀ e, L.nx ≤ (E e).nx) (es : List XE) (st : L.T → Tree (L.T ⊕ Left' E)) (fuel : L.T → Nat)
    (hstep : ∀ g, evC X.P (evFn X m) X.pures fn X.u (fun _ => none) c (L.of g) (stepOut L E) = st g) : LoopOk X.P fn c (loopSum L E (finX es st fuel)) :=
  loopOk_x hX m fn (fun _ => none) (fun _ _ f h => by simp at h) L E hE es st fuel hstep
/-! loops that are left by a panic -/
def castP (E : XE → Lay) (t : TypeId) (k : IntKind) : Left' E → Option ((n : Int) × (E (.panic (.ifc t (.int k n)))).T)
  | ⟨.panic (.ifc t' (.int k' n)), v⟩ => if h : t' = t then if h2 : k' = k then some ⟨n, h ▸ h2 ▸ v⟩ else none else none
  | _ => none
theorem castP_eq {E : XE → Lay} {t : TypeId} {k : IntKind} {y : Left' E} {p : (n : Int) × (E (.panic (.ifc t (.int k n)))).T} (h : castP E t k y = some p) : y = ⟨.panic (.ifc t (.int k p.1)), p.2⟩ := by
  unfold castP at h
  split at h
  · rename_i t' k' n v
    split at h
    · rename_i h1
      subst h1
      split at h
      · rename_i h2
        subst h2
        cases h
        rfl
      · cases h
    · cases h
  · cases h
def isP {E : XE → Lay} (t : TypeId) (k : IntKind) (y : Option (Left' E)) : Bool := match y with
  | some y => (castP E t k y).isSome
  | none => false
def panO {E : XE → Lay} (t : TypeId) (k : IntKind) (y : Option (Left' E)) : (n : Int) × (E (.panic (.ifc t (.int k n)))).T := match y with
  | some y => (castP E t k y).getD ⟨0, (E (.panic (.ifc t (.int k 0)))).dfl⟩
  | none => ⟨0, (E (.panic (.ifc t (.int k 0)))).dfl⟩
theorem castP_some {E : XE → Lay} {t : TypeId} {k : IntKind} {n : Int} {v : (E (.panic (.ifc t (.int k n)))).T} : castP E t k ⟨.panic (.ifc t (.int k n)), v⟩ = some ⟨n, v⟩ := by simp [castP]
theorem isP_some {E : XE → Lay} {t : TypeId} {k : IntKind} {n : Int} {v : (E (.panic (.ifc t (.int k n)))).T} : isP t k (some (⟨.panic (.ifc t (.int k n)), v⟩ : Left' E)) = true := by simp only [isP, castP_some, Option.isSome_some]
theorem panO_some {E : XE → Lay} {t : TypeId} {k : IntKind} {n : Int} {v : (E (.panic (.ifc t (.int k n)))).T} : panO t k (some (⟨.panic (.ifc t (.int k n)), v⟩ : Left' E)) = ⟨n, v⟩ := by simp only [panO, castP_some, Option.getD_some]
theorem isP_eq {E : XE → Lay} {t : TypeId} {k : IntKind} {y : Option (Left' E)} (h : isP t k y = true) : y = some ⟨.panic (.ifc t (.int k (panO t k y).1)), (panO t k y).2⟩ := by
  unfold isP at h
  split at h
  · rename_i z
    cases hc : castP E t k z with
    | none => rw [hc] at h; cases h
    | some v =>
      have := castP_eq hc
      subst this
      obtain ⟨n, v⟩ := v
      rw [panO_some]
  · cases h
/-- the summary, a panic among the ends -/
def finP {L : Lay} {E : XE → Lay} (t : TypeId) (k : IntKind) (es : List XE) (st : L.T → Tree (L.T ⊕ Left' E)) (fuel : L.T → Nat) (g : L.T) : Tree (Left' E) :=
  .br (isP t k (iter st (fuel g) g)) (.leaf ⟨.panic (.ifc t (.int k (panO t k (iter st (fuel g) g)).1)), (panO t k (iter st (fuel g) g)).2⟩) (outE (iter st (fuel g) g) es)
theorem loopOk_p {X : Ctx} (hX : CtxOk X) (m : Nat) (fn : FuncId) (Lt : LoopT) {c : Code} (hL : ∀ d ∈ loopsOf c, ∀ f, Lt (keyOf d) = some f → LoopOk X.P fn d f) (L : Lay) (E : XE → Lay) (hE : ∀ e, L.nx ≤ (E e).nx) (t : TypeId) (k : IntKind) (es : List XE) (st : L.T → Tree (L.T ⊕ Left' E)) (fuel : L.T → Nat)
    (hstep : ∀ g, evC X.P (evFn X m) X.pures fn X.u Lt c (L.of g) (stepOut L E) = st g) : LoopOk X.P fn c (loopSum L E (finP t k es st fuel)) := by
  refine loopOk_of hX m fn Lt hL L E hE (finP t k es st fuel) st hstep ?_
  intro g R _ hf
  obtain ⟨h1, h2⟩ := hf
  cases hp : isP t k (iter st (fuel g) g) with
  | true => exact ⟨_, rnds_iter _ g _ (isP_eq hp) (h1 hp)⟩
  | false =>
    obtain ⟨e, he, hr⟩ := outE_sat (h2 hp)
    exact ⟨_, rnds_iter _ g e he hr⟩
theorem loopOk_p0 {X : Ctx} (hX : CtxOk X) (m : Nat) (fn : FuncId) {c : Code} (L : Lay) (E : XE → Lay) (hE : ∀ e, L.nx ≤ (E e).nx) (t : TypeId) (k : IntKind) (es : List XE) (st : L.T → Tree (L.T ⊕ Left' E)) (fuel : L.T → Nat)
    (hstep : ∀ g, evC X.P (evFn X m) X.pures fn X.u (fun _ => none) c (L.of g) (stepOut L E) = st g) : LoopOk X.P fn c (loopSum L E (finP t k es st fuel)) :=
  loopOk_p hX m fn (fun _ => none) (fun _ _ f h => by simp at h) L E hE t k es st fuel hstep
section
variable {G E S α : Type} {st : G → Tree (G ⊕ E)}
/-- a loop over a list by its rounds -/
def runO (f : Nat → α → S → Option (S ⊕ E)) (ex : S → Option E) : Nat → List α → S → Option E
  | _, [], s => ex s
  | i, x :: l, s => match f i x s with
    | some (.inl s') => runO f ex (i + 1) l s'
    | some (.inr e) => some e
    | none => none
theorem iter_list (l : List α) (hd : Nat → S → G) (f : Nat → α → S → Option (S ⊕ E)) (ex : S → Option E) (Inv : Nat → S → Prop)
    (h1 : ∀ (i : Nat) (s : S) (hi : i < l.length), Inv i s → match f i l[i] s with
      | some (.inl s') => (st (hd i s)).run = some (.inl (hd (i + 1) s')) ∧ Inv (i + 1) s'
      | some (.inr e) => (st (hd i s)).run = some (.inr e)
      | none => True)
    (h2 : ∀ s e, Inv l.length s → ex s = some e → (st (hd l.length s)).run = some (.inr e)) :
    ∀ (k i : Nat) (s : S) (e : E) (n : Nat), i + k = l.length → k + 1 ≤ n → Inv i s → runO f ex i (l.drop i) s = some e → iter st n (hd i s) = some e
  | 0, i, s, e, n, hk, hn, hi, hr => by
    have e1 : i = l.length := by omega
    subst e1
    rw [List.drop_length] at hr
    cases n with
    | zero => omega
    | succ n => exact iter_out (h2 s e hi hr)
  | k + 1, i, s, e, n, hk, hn, hi, hr => by
    have hlt : i < l.length := by omega
    rw [List.drop_eq_getElem_cons hlt] at hr
    have h := h1 i s hlt hi
    simp only [runO] at hr
    cases n with
    | zero => omega
    | succ n =>
      cases hf : f i l[i] s with
      | none => rw [hf] at hr; cases hr
      | some x =>
        rw [hf] at hr h
        cases x with
        | inl s' =>
          rw [iter_in h.1]
          exact iter_list l hd f ex Inv h1 h2 k (i + 1) s' e n (by omega) (by omega) h.2 hr
        | inr e' =>
          cases hr
          exact iter_out h
/-- a loop that counts -/
theorem iter_inv (hd : Nat → S → G) (f : Nat → S → S) (ex : S → E) (Inv : Nat → S → Prop) (m : Nat)
    (h1 : ∀ (i : Nat) (s : S), i < m → Inv i s → (st (hd i s)).run = some (.inl (hd (i + 1) (f i s))) ∧ Inv (i + 1) (f i s))
    (h2 : ∀ s, Inv m s → (st (hd m s)).run = some (.inr (ex s))) :
    ∀ (k i : Nat) (s : S) (n : Nat), i + k = m → k + 1 ≤ n → Inv i s → ∃ s', Inv m s' ∧ iter st n (hd i s) = some (ex s') ∧ s' = (List.range' i k).foldl (fun s j => f j s) s
  | 0, i, s, n, hk, hn, hi => by
    have e1 : i = m := by omega
    subst e1
    cases n with
    | zero => omega
    | succ n => exact ⟨s, hi, iter_out (h2 s hi), rfl⟩
  | k + 1, i, s, n, hk, hn, hi => by
    obtain ⟨h3, h4⟩ := h1 i s (by omega) hi
    cases n with
    | zero => omega
    | succ n =>
      rw [iter_in h3]
      obtain ⟨s', q1, q2, q3⟩ := iter_inv hd f ex Inv m h1 h2 k (i + 1) (f i s) n (by omega) (by omega) h4
      exact ⟨s', q1, q2, by rw [q3, List.range'_succ, List.foldl_cons]⟩
end
/-- a list is looked through for the first element with a property -/
theorem runO_any {α E : Type} (p : α → Bool) (r : Nat → E) (d : E) : ∀ (l : List α) (i : Nat), runO (fun i x (_ : Unit) => bif p x then some (.inr (r i)) else some (.inl ())) (fun _ => some d) i l () = some (bif l.any p then r (i + l.findIdx p) else d)
  | [], i => rfl
  | x :: l, i => by
    simp only [runO, List.any_cons, List.findIdx_cons]
    cases p x with
    | true => simp
    | false =>
      simp only [cond_false, Bool.false_or]
      rw [runO_any p r d l (i + 1)]
      cases l.any p with
      | true => simp only [cond_true]; congr 2; omega
      | false => rfl
/-- a bounded look at a list's element, as the loops over lists have it -/
def forS {β : Type} (n i : Int) (body ex : Tree β) : Tree β := bif decide (i < n) then bif decide (0 ≤ i ∧ i < n) then body else .fail else ex
theorem forS_in {β : Type} {n i : Int} {body ex : Tree β} (h0 : 0 ≤ i) (h : i < n) : forS n i body ex = body := by
  unfold forS
  rw [decide_eq_true h, decide_eq_true ⟨h0, h⟩]; rfl
theorem forS_out {β : Type} {n i : Int} {body ex : Tree β} (h : n ≤ i) : forS n i body ex = ex := by
  unfold forS
  rw [decide_eq_false (show ¬ i < n by omega)]; rfl
/-- two lists of one length, element by element -/
def eqL {α : Type} (eq : α → α → Bool) (u v : List α) : Bool := (u.zip v).all fun p => eq p.1 p.2
theorem eqL_cons {α : Type} (eq : α → α → Bool) (x y : α) (u v : List α) : eqL eq (x :: u) (y :: v) = (eq x y && eqL eq u v) := rfl
theorem eqL_refl {α : Type} {eq : α → α → Bool} (h : ∀ x, eq x x = true) : ∀ u : List α, eqL eq u u = true
  | [] => rfl
  | x :: u => by rw [eqL_cons, h, eqL_refl h u]; rfl
theorem eqL_iff {α : Type} {eq : α → α → Bool} (h : ∀ x y, eq x y = true ↔ x = y) : ∀ {u v : List α}, u.length = v.length → (eqL eq u v = true ↔ u = v)
  | [], [], _ => by simp [eqL]
  | x :: u, y :: v, hl => by
    rw [eqL_cons, Bool.and_eq_true, h, eqL_iff h (by simpa using hl), List.cons.injEq]
theorem iter_same {α G E : Type} {st : G → Tree (G ⊕ E)} {u v : List α} (hl : u.length = v.length) (eq : α → α → Bool) (hd : Nat → G) (rt ex : E)
    (h1 : ∀ (i : Nat) (hi : i < u.length) (hj : i < v.length), (st (hd i)).run = some (bif eq u[i] v[i] then .inl (hd (i + 1)) else .inr rt))
    (h2 : (st (hd u.length)).run = some (.inr ex)) : ∀ (k i n : Nat), i + k = u.length → k + 1 ≤ n → iter st n (hd i) = some (bif eqL eq (u.drop i) (v.drop i) then ex else rt)
  | 0, i, n, hk, hn => by
    have e1 : i = u.length := by omega
    subst e1
    cases n with
    | zero => omega
    | succ n => rw [iter_out h2, List.drop_length]; rfl
  | k + 1, i, n, hk, hn => by
    have hi : i < u.length := by omega
    cases n with
    | zero => omega
    | succ n =>
      rw [List.drop_eq_getElem_cons hi, List.drop_eq_getElem_cons (by omega : i < v.length), eqL_cons]
      have h := h1 i hi (by omega)
      cases he : eq u[i] v[i] with
      | true =>
        rw [he] at h
        rw [iter_in h, iter_same hl eq hd rt ex h1 h2 k (i + 1) n (by omega) (by omega)]
        rfl
      | false =>
        rw [he] at h
        rw [iter_out h]
        rfl
theorem isE_some {E : XE → Lay} {e : XE} {v : (E e).T} (h : castE E e ⟨e, v⟩ = some v) : isE e (some (⟨e, v⟩ : Left' E)) = true := by
  unfold isE
  simp only [h]; rfl
theorem run_leaf {α : Type} (a : α) : (Tree.leaf a).run = some a := rfl
end V
end Go.Proofs.Ytgchccljmjmibaa
