/- From the evaluator to contracts: summaries of functions by plain data; calls of laws. -/
import Derived.Test.YtmmhbianajpdgaaVm
import Derived.ProofKit
namespace Go.Proofs.Ytmmhbianajpdgaa
open Go.RowKit Go.WideShapes Go.ChangeShapes
namespace V

/-! numbers of data are numbers of their kinds -/
mutual
def WFD : (c : TC) → TCT c → Prop
  | .b, _ => True
  | .i k, n => inK k n
  | .s, _ => True
  | .sl c, xs => (xs.length : Int) ≤ maxK .i64 ∧ ∀ x ∈ xs, WFD c x
  | .st cs, x => WFDs cs x
def WFDs : (cs : List TC) → TCTs cs → Prop
  | [], _ => True
  | c :: cs, x => WFD c x.1 ∧ WFDs cs x.2
end
theorem LR.allx {T : Type} {R : T → List Value → Prop} {Q : T → Prop} (h : ∀ x vs, R x vs → Q x) : ∀ {xs : List T} {vs : List Value}, LR R xs vs → ∀ x ∈ xs, Q x
  | [], _, _ => by simp
  | x :: xs, vs, ⟨a, b, _, k1, k2⟩ => by
    intro y hy
    rcases List.mem_cons.1 hy with rfl | hy
    · exact h _ a k1
    · exact LR.allx h k2 y hy
mutual
theorem RepD.wf {m : Nat → Nat → Option Value} : ∀ (c : TC) (x : TCT c) (vs : List Value), RepD m c x vs → WFD c x
  | .b, _, _, _ => by simp only [WFD]
  | .i k, _, _, h => by simp only [RepD] at h; simp only [WFD]; exact h.2
  | .s, _, _, _ => by simp only [WFD]
  | .sl c, xs, vs, h => by
    simp only [RepD] at h
    simp only [WFD]
    obtain ⟨v, _, h⟩ := h
    rcases h with ⟨_, rfl⟩ | ⟨b, o, s, cap, us, _, h2, h3, _, h5⟩
    · simp [maxK]
    · exact ⟨by omega, LR.allx (fun x vs k => RepD.wf c x vs k) h5⟩
  | .st cs, x, vs, h => by simp only [RepD] at h; simp only [WFD]; exact RepDs.wf cs x vs h
theorem RepDs.wf {m : Nat → Nat → Option Value} : ∀ (cs : List TC) (x : TCTs cs) (vs : List Value), RepDs m cs x vs → WFDs cs x
  | [], _, _, _ => by simp only [WFDs]
  | c :: cs, x, vs, h => by
    simp only [RepDs] at h
    obtain ⟨a, b, _, h1, h2⟩ := h
    simp only [WFDs]
    exact ⟨RepD.wf c x.1 a h1, RepDs.wf cs x.2 b h2⟩
end
mutual
theorem RepD.noSl {m m' : Nat → Nat → Option Value} : ∀ (c : TC) (x : TCT c) (vs : List Value), c.noSl = true → RepD m c x vs → RepD m' c x vs
  | .b, _, _, _, h => by simpa only [RepD] using h
  | .i _, _, _, _, h => by simpa only [RepD] using h
  | .s, _, _, _, h => by simpa only [RepD] using h
  | .sl c, _, _, hn, _ => by simp [TC.noSl] at hn
  | .st cs, x, vs, hn, h => by simp only [RepD] at h ⊢; exact RepDs.noSl cs x vs (by simpa only [TC.noSl] using hn) h
theorem RepDs.noSl {m m' : Nat → Nat → Option Value} : ∀ (cs : List TC) (x : TCTs cs) (vs : List Value), noSls cs = true → RepDs m cs x vs → RepDs m' cs x vs
  | [], _, _, _, h => by simpa only [RepDs] using h
  | c :: cs, x, vs, hn, h => by
    simp only [noSls, Bool.and_eq_true] at hn
    simp only [RepDs] at h ⊢
    obtain ⟨a, b, e, h1, h2⟩ := h
    exact ⟨a, b, e, RepD.noSl c x.1 a hn.1 h1, RepDs.noSl cs x.2 b hn.2 h2⟩
end
theorem decA_enc {σ : Env} {c : TC} {x : AV} {v : Value} {y : TCT c} (h : decA c x = some y) (k : Rep σ x v) (τ : Env) (hτ : τ.mem = σ.mem ∨ c.noSl = true) : Rep τ (encA c y) v ∧ WFD c y := by
  obtain ⟨h1, h2, h3⟩ := decA_rep h k
  refine ⟨encA_rep c y v ?_ h2 h3, RepD.wf c y _ h1⟩
  rcases hτ with e | e
  · rw [e]; exact h1
  · exact RepD.noSl c y _ e h1
theorem decAs_enc {σ : Env} : ∀ {cs : List TC} {xs : List AV} {us : List Value} {y : TCTs cs}, decAs cs xs = some y → RepL σ xs us → ∀ (τ : Env), (τ.mem = σ.mem ∨ noSls cs = true) → RepL τ (encAs cs y) us ∧ WFDs cs y
  | [], xs, us, y, h, k, τ, _ => by
    cases xs with
    | nil => simp only [RepL] at k; simp only [encAs, RepL, WFDs]; exact ⟨k, trivial⟩
    | cons x xs => simp [decAs] at h
  | c :: cs, xs, us, y, h, k, τ, hτ => by
    cases xs with
    | nil => simp [decAs] at h
    | cons x xs =>
      simp only [decAs] at h
      split at h <;> try (simp at h; done)
      rename_i z zs hz hzs
      simp only [Option.some.injEq] at h
      subst h
      simp only [RepL] at k
      obtain ⟨v, us', rfl, k1, k2⟩ := k
      have h1 := decA_enc hz k1 τ (hτ.imp id fun e => by simp only [noSls, Bool.and_eq_true] at e; exact e.1)
      have h2 := decAs_enc hzs k2 τ (hτ.imp id fun e => by simp only [noSls, Bool.and_eq_true] at e; exact e.2)
      simp only [encAs, RepL, WFDs]
      exact ⟨⟨v, us', rfl, h1.1, h2.1⟩, h1.2, h2.2⟩
theorem encAs_len : ∀ (cs : List TC) (y : TCTs cs), (encAs cs y).length = cs.length
  | [], _ => rfl
  | c :: cs, y => by simp only [encAs, List.length_cons, encAs_len cs y.2]
theorem tupA_of : ∀ {l : List AV}, (∀ a, l = [a] → False) → tupA l = .tup l
  | [], _ => rfl
  | [a], h => (h a rfl).elim
  | _ :: _ :: _, _ => rfl
theorem decR_enc {σ : Env} {rs : List TC} {x : AV} {v : Value} {y : TCTs rs} (h : decR rs x = some y) (k : Rep σ x v) (τ : Env) (hτ : τ.mem = σ.mem ∨ noSls rs = true) : Rep τ (encR rs y) v := by
  unfold decR at h
  split at h
  · rename_i c x'
    split at h <;> try (simp at h; done)
    rename_i z hz
    simp only [Option.some.injEq] at h
    subst h
    exact (decA_enc hz k τ (hτ.imp id fun e => by simp only [noSls, Bool.and_true] at e; exact e)).1
  · rename_i rs' x' l hne
    simp only [Rep] at k
    obtain ⟨vs, k1, rfl⟩ := k
    have h2 := (decAs_enc h k1 τ hτ).1
    have hl := encAs_len _ y
    unfold encR
    rw [tupA_of (fun a h3 => by
      rw [h3] at hl
      match rs, hl, hne with
      | [c], _, hne => exact hne c rfl
      | [], hl, _ => simp at hl
      | _ :: _ :: _, hl, _ => simp at hl)]
    simp only [Rep]
    exact ⟨vs, h2, rfl⟩
  · simp at h

/-! contracts -/
def noHeap : Heap := fun _ => none
/-- the environment of a call: what it may read -/
def env0 (mem : Nat → Nat → Option Value) : Env := ⟨fun _ => none, mem, fun _ => none, mem⟩
theorem hrel_none {mem : Nat → Nat → Option Value} {w : World} (hm : MemOk mem w) (B : Nat) : HRel B (env0 mem) noHeap 0 w :=
  ⟨fun id o h => by simp [noHeap] at h, fun i j n h => absurd rfl h, fun i _ => ⟨rfl, rfl, rfl⟩, fun i n h => by simp [env0] at h, hm, fun i n h => absurd rfl h, fun _ _ _ h _ => h⟩
def toR (P : Program) (hp : Heap) : AV → AV
  | .tup l => .tup (l.map (toRO P hp))
  | x => toRO P hp x
def idsR : AV → List Nat
  | .tup l => l.flatMap idsOf
  | x => idsOf x
theorem toR_rep {P : Program} {B : Nat} {σ : Env} {hp : Heap} {nx : Nat} {w : World} (h : HRel B σ hp nx w) {x : AV} {v : Value} (hx : Rep σ x v) : Rep { σ with mem := frozen σ hp (idsR x) w } (toR P hp x) v := by
  cases x with
  | tup l =>
    simp only [toR, Rep, idsR] at hx ⊢
    obtain ⟨vs, h1, h2⟩ := hx
    exact ⟨vs, toROs_rep h _ h1 (fun y hy i hi => List.mem_flatMap.2 ⟨y, hy, hi⟩), h2⟩
  | _ => simp only [toR, idsR]; exact toRO_rep h _ hx (fun i hi => hi)
/-- the result, as data -/
def outK (P : Program) (rs : List TC) (v : Out) (hp : Heap) (_ : Nat) : Tree (TCTs rs) :=
  match v with
  | .ret x => match decR rs (toR P hp x) with
    | some y => .leaf y
    | none => .fail
  | .pan _ => .fail

theorem pureOk_of_ev {X : Ctx} (hX : CtxOk X) {f : FuncId} {cs rs : List TC} {ok : TCTs cs → Bool} {F : TCTs cs → TCTs rs} (m : Nat)
    (h : ∀ x : TCTs cs, ok x = true → WFDs cs x → (evFn X m (.fn f) (encAs cs x) noHeap 0 (outK X.P rs)).sat (fun y => y = F x)) : PureOk X.P f (spec cs rs ok F) := by
  intro σ w xs us r _ hm hu hg
  simp only [spec] at hg
  cases hd : decAs cs xs with
  | none => simp [hd] at hg
  | some x =>
    simp only [hd, Option.some.injEq, Prod.mk.injEq] at hg
    obtain ⟨hok, rfl⟩ := hg
    obtain ⟨h1, h2⟩ := decAs_enc hd hu (env0 σ.mem) (.inl rfl)
    obtain ⟨_, hcalls⟩ := evFn_sound hX (fun y => y = F x) m w (env0 σ.mem) noHeap 0 w (.fn f) _ us (outK X.P rs) (hrel_none hm _) (Below.refl _ w) h1 (h x hok h2)
    refine hcalls.mono ?_
    rintro e w' ⟨y, τ, hp', nx', k1, k2, k3, k4, k5⟩
    cases y with
    | pan z => simp [outK, Tree.sat] at k5
    | ret z =>
      simp only [outK] at k5
      split at k5 <;> try (simp [Tree.sat] at k5; done)
      rename_i q hq
      simp only [Tree.sat] at k5
      subst k5
      cases e with
      | returned v =>
        have hz := toR_rep (P := X.P) k2 (show Rep τ z v from k4)
        refine ⟨v, frozen τ hp' (idsR z) w', rfl, frozen_ok k2 _, fun b o u hb => frozen_ge k2 _ b o u (k1.2 b o u hb), fun b o u hb => ?_, fun _ => decR_enc hq hz _ (.inl rfl), fun hf τ' _ => decR_enc hq hz τ' (.inr hf), k3⟩
        unfold frozen at hb
        split at hb
        · rename_i hex
          obtain ⟨id, _, hne, hat⟩ := hex
          exact .inr (k2.ge hne hat)
        · rcases Nat.lt_or_ge b w.heap.size with hlt | hge
          · have := k2.low b o u hb hlt
            rw [k1.4] at this
            exact .inl this
          · exact .inr hge
      | panicked c => exact k4.elim
      | outgrown => exact k4.elim

/-- a law's result has to be true -/
def lawK (v : Out) (_ : Heap) (_ : Nat) : Tree Unit :=
  match v with
  | .ret (.bool b) => bif b then .leaf () else .fail
  | _ => .fail
theorem law_calls {X : Ctx} (hX : CtxOk X) {f : FuncId} (m : Nat) {xs : List AV} {us : List Value} {w : World} {mem : Nat → Nat → Option Value} (hm : MemOk mem w) (hu : RepL (env0 mem) xs us)
    (h : (evFn X m (.fn f) xs noHeap 0 lawK).sat (fun _ => True)) : Calls X.P f us.toArray w fun e w' => e = .returned (.bool true) ∧ Below w.heap.size w w' := by
  obtain ⟨_, hcalls⟩ := evFn_sound hX (fun _ => True) m w (env0 mem) noHeap 0 w (.fn f) xs us lawK (hrel_none hm _) (Below.refl _ w) hu h
  refine Calls.mono hcalls ?_
  rintro e w' ⟨_, y, τ, hp', nx', _, _, k3, k4, k5⟩
  cases y with
  | pan z => simp [lawK, Tree.sat] at k5
  | ret z =>
    cases z <;> simp only [lawK, Tree.sat] at k5
    rename_i b
    cases b with
    | false => simp [Tree.sat] at k5
    | true =>
      cases e with
      | returned v => simp only [OutR, Rep] at k4; subst k4; exact ⟨rfl, k3⟩
      | panicked c => exact k4.elim
      | outgrown => exact k4.elim

theorem sat_cond {α : Type} {R : α → Prop} {b : Bool} {s t : Tree α} (h1 : b = true → s.sat R) (h2 : b = false → t.sat R) : (bif b then s else t).sat R := by
  cases b with
  | true => exact h1 rfl
  | false => exact h2 rfl
theorem sat_leaf {α : Type} {R : α → Prop} {a : α} (h : R a) : (Tree.leaf a).sat R := h
theorem sat_eq {α : Type} {R : α → Prop} {s t : Tree α} (e : s = t) (h : t.sat R) : s.sat R := e ▸ h
/-- a condition that has to hold -/
theorem sat_must {α : Type} {R : α → Prop} {b : Bool} {t : Tree α} (hb : b = true) (h : t.sat R) : (bif b then t else .fail).sat R := by subst hb; exact h
theorem sat_iff {α : Type} {R : α → Prop} {b : Bool} {s t : Tree α} : (bif b then s else t).sat R ↔ (b = true → s.sat R) ∧ (b = false → t.sat R) := by cases b <;> simp

theorem puOk_nil {P : Program} : PuOk P [] := fun p hp => by simp at hp
theorem puOk_cons {P : Program} {f : FuncId} {g : PureT} {l : List (Nat × PureT)} (h1 : Plain P f) (h2 : PureOk P f g) (h : PuOk P l) : PuOk P ((f, g) :: l) := by
  intro p hp
  rcases List.mem_cons.1 hp with rfl | hp
  · exact ⟨h1, h2⟩
  · exact h p hp
/-- a function of the program, by its number -/
def FnIs (P : Program) (p : Nat × Func) : Prop := P.funcs[p.1]? = some p.2 ∧ (p.2.name == "runtime.NumGoroutine") = false ∧ p.2.body.isSome = true
theorem FnIs.plain {P : Program} {f : Nat} {fn : Func} (h : FnIs P (f, fn)) : Plain P f := ⟨fn, h.1, h.2.1, h.2.2⟩
theorem fns_nil {P : Program} : ∀ p ∈ ([] : List (Nat × Func)), FnIs P p := fun p hp => by simp at hp
theorem fns_cons {P : Program} {f : Nat} {fn : Func} {l : List (Nat × Func)} (h1 : FnIs P (f, fn)) (h : ∀ p ∈ l, FnIs P p) : ∀ p ∈ (f, fn) :: l, FnIs P p := by
  intro p hp
  rcases List.mem_cons.1 hp with rfl | hp
  · exact h1
  · exact h p hp
/-- a context without loops' summaries -/
def ctx (P : Program) (pu : List (Nat × PureT)) (fns : List (Nat × Func)) : Ctx := { P := P, u := 64, fns := fns, loops := [], pures := pu, specs := [] }
theorem ctx_ok {P : Program} (hm : P.follows .mixedOrders = true) {pu : List (Nat × PureT)} {fns : List (Nat × Func)} (hp : PuOk P pu) (hf : ∀ p ∈ fns, FnIs P p) : CtxOk (ctx P pu fns) :=
  ⟨hm, hp, fun p h => ⟨(hf p h).1, (hf p h).2.1, fun _ _ _ _ _ h => by simp [ctx, assoc2] at h⟩, fun p h => by simp [ctx] at h⟩

/-- a number of the kind is left as it is -/
theorem wrap_id {n : Int} (h1 : -9223372036854775808 ≤ n) (h2 : n ≤ 9223372036854775807) : IntKind.i64.wrap n = n := by
  unfold IntKind.wrap
  simp [IntKind.bits, IntKind.signed]
  split <;> omega
theorem in64 {n : Int} (h : inK .i64 n) : -9223372036854775808 ≤ n ∧ n ≤ 9223372036854775807 := h

section
variable {H : Type} {enc : TypeId × Value → H} {P : Program}
/-- the end of a law's proof: the call made blocks of its own, and turned nothing that was there -/
theorem post_law {f : Func} {s : ChangeSpec} {apart fresh handsOn again : Bool} {W W' : World} {args : Array Value} {v : Value} {ds gs : List (DataW H)} {before pa pv : List MemPlace}
    (hW : DataW.Whole enc P f.params.toList s.vars apart W args.toList ds gs before)
    (hres : ∀ (b : Nat) (sp : Nat → Bool) (hd : Bool), DataW.TrodAll enc P W' b sp hd f.resultTypes.toList (v.resultList f.resultTypes.size) (s.fn H (ds ++ gs)).results [])
    (hargs : ∀ sp : Nat → Bool, (∀ p ∈ before, sp p.block = true) → DataW.TrodAll enc P W' 0 sp true f.params.toList args.toList (s.fn H (ds ++ gs)).args pa)
    (hvars : ∀ sp : Nat → Bool, (∀ p ∈ before, sp p.block = true) → DataW.TrodVars enc P W' sp s.vars (s.fn H (ds ++ gs)).vars pv)
    (hps : before = pa ++ pv) (hb : Below W.heap.size W W')
    (hok : ∀ (j : Nat) (t : TypeId) (r : Value), f.resultTypes[j]? = some t → (v.resultList f.resultTypes.size)[j]? = some r → Value.okWide P W' .any 0 t r) :
    s.post enc P f apart fresh handsOn again W args v W' := by
  have hlt : ∀ p ∈ before, p.block < W.heap.size := fun p hp => hW.lt p hp
  have hold : ∀ p ∈ before, (fun b => decide (b < W.heap.size)) p.block = true := fun p hp => by simpa using hlt p hp
  refine ⟨ds, gs, before, [], pa, pv, hW, hres _ _ _, hargs _ hold, hvars _ hold, World.keptBut_mono (fun p hp => ⟨hp, ?_⟩) (hb.frame (· ∈ before)), fun _ => ?_⟩
  · rw [hps, List.mem_append] at hp
    exact Or.inr hp
  · obtain ⟨_, _, _, _, _, hz, hn⟩ := hW
    refine ⟨hok, _, _, ([] ++ pa) ++ pv, ⟨[] ++ pa, pv, trodAll_append (hargs _ (fun _ _ => rfl)) (hres _ _ _), hvars _ (fun _ _ => rfl), rfl, ?_, ?_⟩, ?_⟩
    · intro b off hp
      have hin : MemPlace.cell b off ∈ before := by rw [hps]; simpa using hp
      rw [hb.frozen (hlt _ hin)]
      exact hz b off hin
    · intro ha
      have := hn ha
      rw [hps] at this
      simpa using this
    · intro p hp _
      rw [hps]
      simpa using hp
end
end V
end Go.Proofs.Ytmmhbianajpdgaa
