import Derived.Test.YtkiaifmbbnnliaaGreatZa
namespace Go.Proofs.YtkiaifmbbnnliaaGreat
open Go.RowKit
namespace V
def Tree.run {α : Type} : Tree α → Option α
 | .leaf a => some a
 | .need _ _ => none
 | .br c t e => bif c then t.run else e.run
 | .fail => none
theorem Tree.sat_run {α : Type} {R : α → Prop} : ∀ {t : Tree α} {a : α}, t.run = some a → R a → t.sat R
 | .leaf b, a, h, hr => by cases h; exact hr
 | .need _ _, _, h, _ => by cases h
 | .br c t e, a, h, hr => by
  simp only [Tree.run] at h
  cases c with
  | true => exact ⟨fun _ => Tree.sat_run h hr, fun h => nomatch h⟩
  | false => exact ⟨(fun h => nomatch h), fun _ => Tree.sat_run h hr⟩
 | .fail, _, h, _ => by cases h
def iter {G E : Type} (st : G → Tree (G ⊕ E)) : Nat → G → Option E
 | 0, _ => none
 | n + 1, g => match (st g).run with
  | some (.inl g') => iter st n g'
  | some (.inr e) => some e
  | none => none
theorem Lb {G E : Type} {st : G → Tree (G ⊕ E)} {n : Nat} {g g' : G} (h : (st g).run = some (.inl g')) : iter st (n + 1) g = iter st n g' := by
 simp only [iter]
 rw [h]
theorem Ek {G E : Type} {st : G → Tree (G ⊕ E)} {n : Nat} {g : G} {e : E} (h : (st g).run = some (.inr e)) : iter st (n + 1) g = some e := by
 simp only [iter]
 rw [h]
theorem Nw {L : Lay} {E : XE → Lay} {st : L.T → Tree (L.T ⊕ A1 E)} {R : A1 E → Prop} : ∀ (n : Nat) (g : L.T) (e : A1 E), iter st n g = some e → R e → Yr L E st R n g
 | 0, _, _, h, _ => by cases h
 | n + 1, g, e, h, hr => by
  intro _
  simp only [iter] at h
  cases hs : (st g).run with
  | none => rw [hs] at h; cases h
  | some x =>
   rw [hs] at h
   refine Tree.sat_run hs ?_
   cases x with
   | inl g' => exact Nw n g' e h hr
   | inr x => cases h; exact fun _ => hr
mutual
def Bae : (k : SK) → SKT k
 | .d c => Ao c
 | .o _ _ => []
 | .p _ _ _ _ => ()
 | .r c _ => Ao c
 | .f _ a c => (dflKs a, dflKs c)
 | .ag ks => dflKs ks
 | .y _ => ()
 | .q _ => ()
 | .m _ _ => fun _ => none
 | .i _ _ => 0
 | .w _ _ _ => []
def dflKs : (ks : List SK) → SKTs ks
 | [] => ()
 | k :: ks => (Bae k, dflKs ks)
end
def B2w : (bs : List BK) → BTs bs
 | [] => ()
 | b :: bs => (dflKs b.2.2, B2w bs)
def Lay.dfl (L : Lay) : L.T := (dflKs L.ks, B2w L.bs)
def A84 (E : XE → Lay) : (e : XE) → A1 E → Option (E e).T
 | .normal, ⟨.normal, v⟩ => some v
 | .ret, ⟨.ret, v⟩ => some v
 | .exit i, ⟨.exit j, v⟩ => if h : j = i then some (h ▸ v) else none
 | _, _ => none
theorem Apz {E : XE → Lay} {e : XE} {y : A1 E} {v : (E e).T} (h : A84 E e y = some v) : y = ⟨e, v⟩ := by
 unfold A84 at h
 split at h
 ·cases h; rfl
 ·cases h; rfl
 ·rename_i i j v'
  split at h
  ·rename_i hij
   subst hij
   cases h; rfl
  ·cases h
 ·cases h
def isE {E : XE → Lay} (e : XE) (y : Option (A1 E)) : Bool := match y with
 | some y => (A84 E e y).isSome
 | none => false
def C0 {E : XE → Lay} (e : XE) (y : Option (A1 E)) : (E e).T := match y with
 | some y => (A84 E e y).getD (E e).dfl
 | none => (E e).dfl
theorem B2x {E : XE → Lay} {e : XE} {y : Option (A1 E)} (h : isE e y = true) : y = some ⟨e, C0 e y⟩ := by
 unfold isE at h
 split at h
 ·rename_i z
  cases hc : A84 E e z with
  | none => rw [hc] at h; cases h
  | some v =>
   have := Apz hc
   subst this
   simp only [C0, hc, Option.getD_some]
 ·cases h
def Awh {E : XE → Lay} (y : Option (A1 E)) : List XE → Tree (A1 E)
 | [] => .fail
 | e :: es => .br (isE e y) (.leaf ⟨e, C0 e y⟩) (Awh y es)
theorem Xw {E : XE → Lay} {y : Option (A1 E)} {R : A1 E → Prop} : ∀ {es : List XE}, (Awh y es).sat R → ∃ e, y = some e ∧ R e
 | [], h => h.elim
 | e :: es, h => by
  obtain ⟨h1, h2⟩ := h
  cases hi : isE e y with
  | true => exact ⟨_, B2x hi, h1 hi⟩
  | false => exact Xw (h2 hi)
def C3 {L : Lay} {E : XE → Lay} (es : List XE) (st : L.T → Tree (L.T ⊕ A1 E)) (fuel : L.T → Nat) (g : L.T) : Tree (A1 E) := Awh (iter st (fuel g) g) es
theorem Xx {X : Ctx} (hX : CtxOk X) (m : Nat) (fn : FuncId) (Lt : Jh) {c : Code} (hL : ∀ d ∈ A8 c, ∀ f, Lt (keyOf d) = some f → Aj X.P fn d f) (L : Lay) (E : XE → Lay) (hE : ∀ e, L.nx ≤ (E e).nx) (es : List XE) (st : L.T → Tree (L.T ⊕ A1 E)) (fuel : L.T → Nat)
  (hstep : ∀ g, evC X.P (Ch X m) X.pures fn X.u Lt c (L.of g) (En L E) = st g) : Aj X.P fn c (Ac L E (C3 es st fuel)) := by
 refine Dc hX m fn Lt hL L E hE (C3 es st fuel) st hstep ?_
 intro g R _ hf
 obtain ⟨e, he, hr⟩ := Xw hf
 exact ⟨_, Nw _ g e he hr⟩
theorem Ay {X : Ctx} (hX : CtxOk X) (m : Nat) (fn : FuncId) {c : Code} (L : Lay) (E : XE → Lay) (hE : ∀ e, L.nx ≤ (E e).nx) (es : List XE) (st : L.T → Tree (L.T ⊕ A1 E)) (fuel : L.T → Nat)
  (hstep : ∀ g, evC X.P (Ch X m) X.pures fn X.u (fun _ => none) c (L.of g) (En L E) = st g) : Aj X.P fn c (Ac L E (C3 es st fuel)) :=
 Xx hX m fn (fun _ => none) (fun _ _ f h => by simp at h) L E hE es st fuel hstep
def Xy (E : XE → Lay) (t : TypeId) (k : IntKind) : A1 E → Option ((n : Int) × (E (.panic (.ifc t (.int k n)))).T)
 | ⟨.panic (.ifc t' (.int k' n)), v⟩ => if h : t' = t then if h2 : k' = k then some ⟨n, h ▸ h2 ▸ v⟩ else none else none
 | _ => none
theorem Aq0 {E : XE → Lay} {t : TypeId} {k : IntKind} {y : A1 E} {p : (n : Int) × (E (.panic (.ifc t (.int k n)))).T} (h : Xy E t k y = some p) : y = ⟨.panic (.ifc t (.int k p.1)), p.2⟩ := by
 unfold Xy at h
 split at h
 ·rename_i t' k' n v
  split at h
  ·rename_i h1
   subst h1
   split at h
   ·rename_i h2
    subst h2
    cases h
    rfl
   ·cases h
  ·cases h
 ·cases h
def isP {E : XE → Lay} (t : TypeId) (k : IntKind) (y : Option (A1 E)) : Bool := match y with
 | some y => (Xy E t k y).isSome
 | none => false
def panO {E : XE → Lay} (t : TypeId) (k : IntKind) (y : Option (A1 E)) : (n : Int) × (E (.panic (.ifc t (.int k n)))).T := match y with
 | some y => (Xy E t k y).getD ⟨0, (E (.panic (.ifc t (.int k 0)))).dfl⟩
 | none => ⟨0, (E (.panic (.ifc t (.int k 0)))).dfl⟩
theorem Xz {E : XE → Lay} {t : TypeId} {k : IntKind} {n : Int} {v : (E (.panic (.ifc t (.int k n)))).T} : Xy E t k ⟨.panic (.ifc t (.int k n)), v⟩ = some ⟨n, v⟩ := by simp [Xy]
theorem N0 {E : XE → Lay} {t : TypeId} {k : IntKind} {n : Int} {v : (E (.panic (.ifc t (.int k n)))).T} : isP t k (some (⟨.panic (.ifc t (.int k n)), v⟩ : A1 E)) = true := by simp only [isP, Xz, Option.isSome_some]
theorem Ih {E : XE → Lay} {t : TypeId} {k : IntKind} {n : Int} {v : (E (.panic (.ifc t (.int k n)))).T} : panO t k (some (⟨.panic (.ifc t (.int k n)), v⟩ : A1 E)) = ⟨n, v⟩ := by simp only [panO, Xz, Option.getD_some]
theorem B2y {E : XE → Lay} {t : TypeId} {k : IntKind} {y : Option (A1 E)} (h : isP t k y = true) : y = some ⟨.panic (.ifc t (.int k (panO t k y).1)), (panO t k y).2⟩ := by
 unfold isP at h
 split at h
 ·rename_i z
  cases hc : Xy E t k z with
  | none => rw [hc] at h; cases h
  | some v =>
   have := Aq0 hc
   subst this
   obtain ⟨n, v⟩ := v
   rw [Ih]
 ·cases h
def finP {L : Lay} {E : XE → Lay} (t : TypeId) (k : IntKind) (es : List XE) (st : L.T → Tree (L.T ⊕ A1 E)) (fuel : L.T → Nat) (g : L.T) : Tree (A1 E) :=
 .br (isP t k (iter st (fuel g) g)) (.leaf ⟨.panic (.ifc t (.int k (panO t k (iter st (fuel g) g)).1)), (panO t k (iter st (fuel g) g)).2⟩) (Awh (iter st (fuel g) g) es)
theorem A85 {X : Ctx} (hX : CtxOk X) (m : Nat) (fn : FuncId) (Lt : Jh) {c : Code} (hL : ∀ d ∈ A8 c, ∀ f, Lt (keyOf d) = some f → Aj X.P fn d f) (L : Lay) (E : XE → Lay) (hE : ∀ e, L.nx ≤ (E e).nx) (t : TypeId) (k : IntKind) (es : List XE) (st : L.T → Tree (L.T ⊕ A1 E)) (fuel : L.T → Nat)
  (hstep : ∀ g, evC X.P (Ch X m) X.pures fn X.u Lt c (L.of g) (En L E) = st g) : Aj X.P fn c (Ac L E (finP t k es st fuel)) := by
 refine Dc hX m fn Lt hL L E hE (finP t k es st fuel) st hstep ?_
 intro g R _ hf
 obtain ⟨h1, h2⟩ := hf
 cases hp : isP t k (iter st (fuel g) g) with
 | true => exact ⟨_, Nw _ g _ (B2y hp) (h1 hp)⟩
 | false =>
  obtain ⟨e, he, hr⟩ := Xw (h2 hp)
  exact ⟨_, Nw _ g e he hr⟩
theorem Nx {X : Ctx} (hX : CtxOk X) (m : Nat) (fn : FuncId) {c : Code} (L : Lay) (E : XE → Lay) (hE : ∀ e, L.nx ≤ (E e).nx) (t : TypeId) (k : IntKind) (es : List XE) (st : L.T → Tree (L.T ⊕ A1 E)) (fuel : L.T → Nat)
  (hstep : ∀ g, evC X.P (Ch X m) X.pures fn X.u (fun _ => none) c (L.of g) (En L E) = st g) : Aj X.P fn c (Ac L E (finP t k es st fuel)) :=
 A85 hX m fn (fun _ => none) (fun _ _ f h => by simp at h) L E hE t k es st fuel hstep
section
variable {G E S α : Type} {st : G → Tree (G ⊕ E)}
def Yt (f : Nat → α → S → Option (S ⊕ E)) (ex : S → Option E) : Nat → List α → S → Option E
 | _, [], s => ex s
 | i, x :: l, s => match f i x s with
  | some (.inl s') => Yt f ex (i + 1) l s'
  | some (.inr e) => some e
  | none => none
theorem G3 (l : List α) (hd : Nat → S → G) (f : Nat → α → S → Option (S ⊕ E)) (ex : S → Option E) (Inv : Nat → S → Prop)
  (h1 : ∀ (i : Nat) (s : S) (hi : i < l.length), Inv i s → match f i l[i] s with
   | some (.inl s') => (st (hd i s)).run = some (.inl (hd (i + 1) s')) ∧ Inv (i + 1) s'
   | some (.inr e) => (st (hd i s)).run = some (.inr e)
   | none => True)
  (h2 : ∀ s e, Inv l.length s → ex s = some e → (st (hd l.length s)).run = some (.inr e)) :
  ∀ (k i : Nat) (s : S) (e : E) (n : Nat), i + k = l.length → k + 1 ≤ n → Inv i s → Yt f ex i (l.drop i) s = some e → iter st n (hd i s) = some e
 | 0, i, s, e, n, hk, hn, hi, hr => by
  have e1 : i = l.length := by omega
  subst e1
  rw [List.drop_length] at hr
  cases n with
  | zero => omega
  | succ n => exact Ek (h2 s e hi hr)
 | k + 1, i, s, e, n, hk, hn, hi, hr => by
  have hlt : i < l.length := by omega
  rw [List.drop_eq_getElem_cons hlt] at hr
  have h := h1 i s hlt hi
  simp only [Yt] at hr
  cases n with
  | zero => omega
  | succ n =>
   cases hf : f i l[i] s with
   | none => rw [hf] at hr; cases hr
   | some x =>
    rw [hf] at hr h
    cases x with
    | inl s' =>
     rw [Lb h.1]
     exact G3 l hd f ex Inv h1 h2 k (i + 1) s' e n (by omega) (by omega) h.2 hr
    | inr e' =>
     cases hr
     exact Ek h
end
theorem R8 {α E : Type} (p : α → Bool) (r : Nat → E) (d : E) : ∀ (l : List α) (i : Nat), Yt (fun i x (_ : Unit) => bif p x then some (.inr (r i)) else some (.inl ())) (fun _ => some d) i l () = some (bif l.any p then r (i + l.findIdx p) else d)
 | [], i => rfl
 | x :: l, i => by
  simp only [Yt, List.any_cons, List.findIdx_cons]
  cases p x with
  | true => simp
  | false =>
   simp only [cond_false, Bool.false_or]
   rw [R8 p r d l (i + 1)]
   cases l.any p with
   | true => simp only [cond_true]; congr 2; omega
   | false => rfl
end V
end Go.Proofs.YtkiaifmbbnnliaaGreat
