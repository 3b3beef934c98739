/- From the evaluator to contracts: summaries of functions that leave memory alone; calls of laws; what a loop's summary owes. -/
import Derived.Test.YtmmhbianajpdgaaEh
import Derived.ProofKit
import Derived.Below
namespace Go.Proofs.Ytmmhbianajpdgaa
open Go.RowKit Go.WideShapes Go.ChangeShapes
namespace Ev

mutual
def closed : AV → Bool
  | .bool _ | .int _ _ | .nilp | .val _ => true
  | .agg cs => closedL cs
  | .tup cs => closedL cs
  | .fn _ a c => closedL a && closedL c
  | _ => false
def closedL : List AV → Bool
  | [] => true
  | x :: xs => closed x && closedL xs
end
mutual
theorem rep_closed {σ τ : Nat → Option Nat} : ∀ (x : AV) (v : Value), closed x = true → Rep σ x v → Rep τ x v
  | .bool _, _, _, h => by simpa only [Rep] using h
  | .int _ _, _, _, h => by simpa only [Rep] using h
  | .nilp, _, _, h => by simpa only [Rep] using h
  | .val _, _, _, h => by simpa only [Rep] using h
  | .agg cs, v, hc, h => by
    simp only [Rep] at h ⊢
    obtain ⟨vs, h1, h2⟩ := h
    exact ⟨vs, repL_closed cs vs (by simpa only [closed] using hc) h1, h2⟩
  | .tup cs, v, hc, h => by
    simp only [Rep] at h ⊢
    obtain ⟨vs, h1, h2⟩ := h
    exact ⟨vs, repL_closed cs vs (by simpa only [closed] using hc) h1, h2⟩
  | .fn f a c, v, hc, h => by
    simp only [closed, Bool.and_eq_true] at hc
    simp only [Rep] at h ⊢
    obtain ⟨x, y, h1, h2, h3⟩ := h
    exact ⟨x, y, repL_closed a x hc.1 h1, repL_closed c y hc.2 h2, h3⟩
  | .ptr _ _ _ _, _, hc, _ => by simp [closed] at hc
  | .sl _ _ _ _ _, _, hc, _ => by simp [closed] at hc
  | .top, _, hc, _ => by simp [closed] at hc
theorem repL_closed {σ τ : Nat → Option Nat} : ∀ (xs : List AV) (vs : List Value), closedL xs = true → RepL σ xs vs → RepL τ xs vs
  | [], _, _, h => by simpa only [RepL] using h
  | x :: xs, vs, hc, h => by
    simp only [closedL, Bool.and_eq_true] at hc
    simp only [RepL] at h ⊢
    obtain ⟨v, us, h1, h2, h3⟩ := h
    exact ⟨v, us, h1, rep_closed x v hc.1 h2, repL_closed xs us hc.2 h3⟩
end
mutual
/-- all numbers of a value are numbers of their kinds -/
def WF : AV → Prop
  | .int k n => inK k n
  | .agg cs => WFL cs
  | .tup cs => WFL cs
  | .fn _ a c => WFL a ∧ WFL c
  | _ => True
def WFL : List AV → Prop
  | [] => True
  | x :: xs => WF x ∧ WFL xs
end
mutual
theorem rep_wf {σ : Nat → Option Nat} : ∀ (x : AV) (v : Value), Rep σ x v → WF x
  | .bool _, _, _ => by simp only [WF]
  | .int _ _, _, h => by simp only [Rep] at h; simp only [WF]; exact h.2
  | .nilp, _, _ => by simp only [WF]
  | .val _, _, _ => by simp only [WF]
  | .agg cs, v, h => by
    simp only [Rep] at h
    obtain ⟨vs, h1, h2⟩ := h
    simp only [WF]; exact repL_wf cs vs h1
  | .tup cs, v, h => by
    simp only [Rep] at h
    obtain ⟨vs, h1, h2⟩ := h
    simp only [WF]; exact repL_wf cs vs h1
  | .fn f a c, v, h => by
    simp only [Rep] at h
    obtain ⟨x, y, h1, h2, h3⟩ := h
    simp only [WF]; exact ⟨repL_wf a x h1, repL_wf c y h2⟩
  | .ptr _ _ _ _, _, _ => by simp only [WF]
  | .sl _ _ _ _ _, _, _ => by simp only [WF]
  | .top, _, _ => by simp only [WF]
theorem repL_wf {σ : Nat → Option Nat} : ∀ (xs : List AV) (vs : List Value), RepL σ xs vs → WFL xs
  | [], _, _ => by simp only [WFL]
  | x :: xs, vs, h => by
    simp only [RepL] at h
    obtain ⟨v, us, h1, h2, h3⟩ := h
    simp only [WFL]; exact ⟨rep_wf x v h2, repL_wf xs us h3⟩
end

def noSig : Nat → Option Nat := fun _ => none
def noHeap : Heap := fun _ => none
theorem hrel_none (B : Nat) (w : World) : HRel B noSig noHeap 0 w :=
  ⟨fun id b h => by simp [noHeap] at h, fun i j n h => by simp [noSig] at h, fun i _ => rfl, fun i n h => by simp [noSig] at h⟩

/-- the result alone, where it names no memory -/
def outK (v : AV) (_ : Heap) (_ : Nat) : Tree AV := bif closed v then .leaf v else .fail

theorem pureOk_of_ev {X : Ctx} (hX : CtxOk X) {f : FuncId} {g : PureT} (m : Nat)
    (h : ∀ xs x, WFL xs → g xs = some (true, x) → closedL xs = true ∧ (evFn X m f xs noHeap 0 outK).sat (fun v => v = x)) : PureOk X.P f g := by
  intro σ w xs us x hu hg
  obtain ⟨h1, h2⟩ := h xs x (repL_wf xs us hu) hg
  obtain ⟨_, hcalls⟩ := evFn_sound hX (fun v => v = x) m w noSig noHeap 0 w f xs us outK (hrel_none _ w) (Below.refl _ w) (repL_closed xs us h1 hu) h2
  refine hcalls.mono ?_
  rintro e w' ⟨v, y, τ, hp', nx', rfl, _, _, hb, hr, hs⟩
  refine ⟨v, rfl, ?_, hb⟩
  simp only [outK] at hs
  cases hc : closed y with
  | false => simp [hc, Tree.sat] at hs
  | true =>
    simp only [hc, cond_true, Tree.sat] at hs
    subst hs
    exact rep_closed y v hc hr

/-- a law's result has to be true -/
def lawK (v : AV) (_ : Heap) (_ : Nat) : Tree Unit :=
  match v with
  | .bool b => bif b then .leaf () else .fail
  | _ => .fail
theorem law_calls {X : Ctx} (hX : CtxOk X) {f : FuncId} (m : Nat) {xs : List AV} {us : List Value} {w : World} (hu : RepL noSig xs us)
    (h : (evFn X m f xs noHeap 0 lawK).sat (fun _ => True)) : Calls X.P f us.toArray w fun e w' => e = .returned (.bool true) ∧ Below w.heap.size w w' := by
  obtain ⟨_, hcalls⟩ := evFn_sound hX (fun _ => True) m w noSig noHeap 0 w f xs us lawK (hrel_none _ w) (Below.refl _ w) hu h
  refine hcalls.mono ?_
  rintro e w' ⟨v, y, τ, hp', nx', rfl, _, _, hb, hr, hs⟩
  cases y with
  | bool b =>
    simp only [lawK] at hs
    cases b with
    | false => simp [Tree.sat] at hs
    | true => simp only [Rep] at hr; subst hr; exact ⟨rfl, hb⟩
  | _ => simp [lawK, Tree.sat] at hs

theorem sat_cond {α : Type} {R : α → Prop} {b : Bool} {s t : Tree α} (h1 : b = true → s.sat R) (h2 : b = false → t.sat R) : (bif b then s else t).sat R := by
  cases b with
  | true => exact h1 rfl
  | false => exact h2 rfl
theorem sat_leaf {α : Type} {R : α → Prop} {a : α} (h : R a) : (Tree.leaf a).sat R := h
theorem sat_eq {α : Type} {R : α → Prop} {s t : Tree α} (e : s = t) (h : t.sat R) : s.sat R := e ▸ h

theorem puOk_nil {P : Program} : PuOk P [] := fun p hp => by simp at hp
theorem puOk_cons {P : Program} {f : FuncId} {g : PureT} {l : List (Nat × PureT)} (h1 : Plain P f) (h2 : PureOk P f g) (h : PuOk P l) : PuOk P ((f, g) :: l) := by
  intro p hp
  rcases List.mem_cons.1 hp with rfl | hp
  · exact ⟨h1, h2⟩
  · exact h p hp
/-- a function of the program, by its number -/
def FnIs (P : Program) (p : Nat × Func) : Prop := P.funcs[p.1]? = some p.2 ∧ (p.2.name == "runtime.NumGoroutine") = false ∧ p.2.body.isSome = true
theorem FnIs.plain {P : Program} {f : Nat} {fn : Func} (h : FnIs P (f, fn)) : Plain P f := ⟨fn, h.1, h.2.1, h.2.2⟩
theorem fns_nil {P : Program} : ∀ p ∈ ([] : List (Nat × Func)), FnIs P p := fun p hp => by simp at hp
theorem fns_cons {P : Program} {f : Nat} {fn : Func} {l : List (Nat × Func)} (h1 : FnIs P (f, fn)) (h : ∀ p ∈ l, FnIs P p) : ∀ p ∈ (f, fn) :: l, FnIs P p := by
  intro p hp
  rcases List.mem_cons.1 hp with rfl | hp
  · exact h1
  · exact h p hp
/-- a context without loops' summaries -/
def ctx (P : Program) (pu : List (Nat × PureT)) (fns : List (Nat × Func)) : Ctx := { P := P, u := 64, fns := fns, loops := [], pures := pu, specs := [] }
theorem ctx_ok {P : Program} (hm : P.follows .mixedOrders = true) {pu : List (Nat × PureT)} {fns : List (Nat × Func)} (hp : PuOk P pu) (hf : ∀ p ∈ fns, FnIs P p) : CtxOk (ctx P pu fns) :=
  ⟨hm, hp, fun p h => ⟨(hf p h).1, (hf p h).2.1, fun _ _ _ _ _ h => by simp [ctx, assoc2] at h⟩, fun p h => by simp [ctx] at h⟩

/-- a number of the kind is left as it is -/
theorem wrap_id {n : Int} (h1 : -9223372036854775808 ≤ n) (h2 : n ≤ 9223372036854775807) : IntKind.i64.wrap n = n := by
  unfold IntKind.wrap
  simp [IntKind.bits, IntKind.signed]
  split <;> omega
theorem in64 {n : Int} (h : inK .i64 n) : -9223372036854775808 ≤ n ∧ n ≤ 9223372036854775807 := h

section
variable {H : Type} {enc : TypeId × Value → H} {P : Program}
/-- the end of a law's proof: the call made blocks of its own, and turned nothing that was there -/
theorem post_law {f : Func} {s : ChangeSpec} {apart fresh handsOn again : Bool} {W W' : World} {args : Array Value} {v : Value} {ds gs : List (DataW H)} {before pa pv : List MemPlace}
    (hW : DataW.Whole enc P f.params.toList s.vars apart W args.toList ds gs before)
    (hres : ∀ (b : Nat) (sp : Nat → Bool) (hd : Bool), DataW.TrodAll enc P W' b sp hd f.resultTypes.toList (v.resultList f.resultTypes.size) (s.fn H (ds ++ gs)).results [])
    (hargs : ∀ sp : Nat → Bool, (∀ p ∈ before, sp p.block = true) → DataW.TrodAll enc P W' 0 sp true f.params.toList args.toList (s.fn H (ds ++ gs)).args pa)
    (hvars : ∀ sp : Nat → Bool, (∀ p ∈ before, sp p.block = true) → DataW.TrodVars enc P W' sp s.vars (s.fn H (ds ++ gs)).vars pv)
    (hps : before = pa ++ pv) (hb : Below W.heap.size W W')
    (hok : ∀ (j : Nat) (t : TypeId) (r : Value), f.resultTypes[j]? = some t → (v.resultList f.resultTypes.size)[j]? = some r → Value.okWide P W' .any 0 t r) :
    s.post enc P f apart fresh handsOn again W args v W' := by
  have hlt : ∀ p ∈ before, p.block < W.heap.size := fun p hp => hW.lt p hp
  have hold : ∀ p ∈ before, (fun b => decide (b < W.heap.size)) p.block = true := fun p hp => by simpa using hlt p hp
  refine ⟨ds, gs, before, [], pa, pv, hW, hres _ _ _, hargs _ hold, hvars _ hold, World.keptBut_mono (fun p hp => ⟨hp, ?_⟩) (hb.frame (· ∈ before)), fun _ => ?_⟩
  · rw [hps, List.mem_append] at hp
    exact Or.inr hp
  · obtain ⟨_, _, _, _, _, hz, hn⟩ := hW
    refine ⟨hok, _, _, ([] ++ pa) ++ pv, ⟨[] ++ pa, pv, trodAll_append (hargs _ (fun _ _ => rfl)) (hres _ _ _), hvars _ (fun _ _ => rfl), rfl, ?_, ?_⟩, ?_⟩
    · intro b off hp
      have hin : MemPlace.cell b off ∈ before := by rw [hps]; simpa using hp
      rw [hb.frozen (hlt _ hin)]
      exact hz b off hin
    · intro ha
      have := hn ha
      rw [hps] at this
      simpa using this
    · intro p hp _
      rw [hps]
      simpa using hp
end
end Ev
end Go.Proofs.Ytmmhbianajpdgaa
