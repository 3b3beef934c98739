/- That the symbolic evaluator of the text Ea is sound, last part: code, functions. -/
import Derived.Test.YtmmhbianajpdgaaEj
namespace Go.Proofs.Ytmmhbianajpdgaa
open Go.RowKit
namespace Ev
section
variable {P : Program} {α : Type} {cT : CallT α} {R : α → Prop}
theorem sat_bind {β γ : Type} {R : γ → Prop} (t : Tree β) (f : β → Tree γ) : (t.bind f).sat R ↔ t.sat (fun x => (f x).sat R) := by
  induction t with
  | leaf a => rfl
  | need p t ih => simp only [Tree.bind, Tree.sat, ih]
  | br c t e ih1 ih2 =>
    simp only [Tree.bind, Tree.sat]
    cases c with
    | true => simp [ih1]
    | false => simp [ih2]
  | fail => rfl

/-- what is owed for the summary of a loop -/
def LoopOk (P : Program) (c : Code) (f : St → Tree (Exit × St)) : Prop :=
  ∀ (w0 : World) (σ : Nat → Option Nat) (s : St) (a : Go.Act) (w : World) (R : Exit × St → Prop), Sat w0 σ s a w → (f s).sat R →
    (Code.loop c).wp P (fun e a' w' => ∃ τ s', Ext σ τ ∧ Sat w0 τ s' a' w' ∧ R (e, s')) a w
def loopsOf : Code → List Code
  | .seq a b => loopsOf a ++ loopsOf b
  | .cond _ a b => loopsOf a ++ loopsOf b
  | .block _ c => loopsOf c
  | .loop c => c :: loopsOf c
  | _ => []

theorem evC_sound (hmix : P.follows .mixedOrders = true) {pu : List (Nat × PureT)} (hpu : PuOk P pu) (hc : CTok P cT R) {w0 : World} (u : Nat) (L : LoopT) : ∀ (c : Code) (_ : ∀ d ∈ loopsOf c, ∀ f, L (keyOf d) = some f → LoopOk P d f) (σ : Nat → Option Nat) (s : St) (a : Go.Act) (w : World) (K : Exit → St → Tree α),
    Sat w0 σ s a w → (evC P cT pu u L c s K).sat R → c.wp P (fun e a' w' => ∃ τ s', Ext σ τ ∧ Sat w0 τ s' a' w' ∧ (K e s').sat R) a w
  | .skip, _, σ, s, a, w, K, hS, h => wp_skip ⟨σ, s, Ext.refl _, hS, by simpa [evC] using h⟩
  | .region id ops draw, _, σ, s, a, w, K, hS, h => by
    cases draw with
    | true =>
      simp only [evC] at h
      refine wp_mono (draw_sound (K := K .normal) hc hmix hpu hS h) ?_
      rintro e a' w' ⟨rfl, h1⟩
      exact h1
    | false =>
      simp only [evC] at h
      exact wp_region (evOps_sound hc _ σ s a w hS h (fun τ s' a' w' e hS' h' => ⟨τ, s', e, hS', h'⟩))
  | .seq x y, hL, σ, s, a, w, K, hS, h => by
    simp only [evC] at h
    have h1 := evC_sound hmix hpu hc u L x (fun d hd => hL d (by simp [loopsOf, hd])) σ s a w _ hS h
    refine wp_seq (wp_mono h1 ?_)
    rintro e a' w' ⟨τ, s', he, hS', h'⟩
    cases e with
    | normal =>
      have h2 := evC_sound hmix hpu hc u L y (fun d hd => hL d (by simp [loopsOf, hd])) τ s' a' w' K hS' h'
      exact wp_mono h2 fun e a2 w2 ⟨τ2, s2, e2, hS2, h2⟩ => ⟨τ2, s2, he.trans e2, hS2, h2⟩
    | _ => exact ⟨τ, s', he, hS', h'⟩
  | .cond o x y, hL, σ, s, a, w, K, hS, h => by
    simp only [evC] at h
    have hr := hS.eval o
    cases ho : s.eval o with
    | bool b =>
      rw [ho] at hr h
      simp only [Rep] at hr
      have hl : Sat w0 σ (learn o b s) a w := by
        cases o with
        | tmp t =>
          simp only [learn]
          cases Nat.ble s.n t with
          | true => exact hS
          | false => exact hS.learn (by simp only [Go.Act.eval] at hr; rw [hr]; simp only [Rep])
        | _ => exact hS
      cases b with
      | true => exact wp_cond_true hr (evC_sound hmix hpu hc u L x (fun d hd => hL d (by simp [loopsOf, hd])) σ _ a w K hl (by simpa using h))
      | false => exact wp_cond_false hr (evC_sound hmix hpu hc u L y (fun d hd => hL d (by simp [loopsOf, hd])) σ _ a w K hl (by simpa using h))
    | _ => rw [ho] at h; simp [Tree.sat] at h
  | .block id c, hL, σ, s, a, w, K, hS, h => by
    simp only [evC] at h
    have h1 := evC_sound hmix hpu hc u L c (fun d hd => hL d (by simpa [loopsOf] using hd)) σ s a w _ hS h
    refine wp_block (wp_mono h1 ?_)
    rintro e a' w' ⟨τ, s', he, hS', h'⟩
    cases e with
    | exit id' =>
      simp only [Exit.inBlock]
      by_cases hid : id' = id
      · subst hid
        rw [if_pos rfl]
        exact ⟨τ, s', he, hS', by simpa using h'⟩
      · rw [if_neg hid]
        exact ⟨τ, s', he, hS', by simpa [beq_ne hid] using h'⟩
    | _ => exact ⟨τ, s', he, hS', h'⟩
  | .loop c, hL, σ, s, a, w, K, hS, h => by
    simp only [evC] at h
    cases hl : L (keyOf c) with
    | some f =>
      simp only [hl, sat_bind] at h
      have h1 := hL c (by simp [loopsOf]) f hl w0 σ s a w _ hS h
      exact wp_mono h1 fun e a' w' ⟨τ, s', he, hS', h'⟩ => ⟨τ, s', he, hS', h'⟩
    | none =>
      simp only [hl] at h
      have key : ∀ (n : Nat) (σ' : Nat → Option Nat) (s : St) (a : Go.Act) (w : World), Ext σ σ' → Sat w0 σ' s a w → (unroll n (fun s K => evC P cT pu u L c s K) s K).sat R →
          Code.rounds P c (fun e a' w' => ∃ τ s', Ext σ τ ∧ Sat w0 τ s' a' w' ∧ (K e s').sat R) n a w := by
        intro n
        induction n with
        | zero => intro σ' s a w _ _ h; simp [unroll, Tree.sat] at h
        | succ n ih =>
          intro σ' s a w e0 hS h
          simp only [unroll] at h
          rw [rounds_succ]
          have h1 := evC_sound hmix hpu hc u L c (fun d hd => hL d (by simp [loopsOf, hd])) σ' s a w _ hS h
          refine wp_mono h1 ?_
          rintro e a' w' ⟨τ, s', he, hS', h'⟩
          cases e with
          | normal => exact ih τ s' a' w' (e0.trans he) hS' h'
          | _ => exact ⟨τ, s', e0.trans he, hS', h'⟩
      exact wp_loop_rounds u (key u σ s a w (Ext.refl _) hS h)
  | .exit id, _, σ, s, a, w, K, hS, h => wp_exit ⟨σ, s, Ext.refl _, hS, by simpa [evC] using h⟩
  | .ret, _, σ, s, a, w, K, hS, h => wp_ret ⟨σ, s, Ext.refl _, hS, by simpa [evC] using h⟩
  | .rangeFunc .., _, _, _, _, _, _, _, h => by simp [evC, Tree.sat] at h
  | .scope _, _, _, _, _, _, _, _, h => by simp [evC, Tree.sat] at h
  | .label _, _, _, _, _, _, _, _, h => by simp [evC, Tree.sat] at h
  | .goto _, _, _, _, _, _, _, _, h => by simp [evC, Tree.sat] at h
  | .refuse _, _, _, _, _, _, _, _, h => by simp [evC, Tree.sat] at h
end

/-- what is owed for the summary of a function -/
def SpecOk (P : Program) (f : FuncId) (c : Heap → Nat → List AV → Tree (AV × Heap × Nat)) : Prop :=
  ∀ (w0 : World) (σ : Nat → Option Nat) (hp : Heap) (nx : Nat) (w : World) (xs : List AV) (us : List Value) (R : AV × Heap × Nat → Prop),
    HRel w0.heap.size σ hp nx w → Below w0.heap.size w0 w → RepL σ xs us → (c hp nx xs).sat R →
    Calls P f us.toArray w fun e w' => ∃ v x τ hp' nx', e = .returned v ∧ Ext σ τ ∧ HRel w0.heap.size τ hp' nx' w' ∧ Below w0.heap.size w0 w' ∧ Rep τ x v ∧ R (x, hp', nx')

structure CtxOk (X : Ctx) : Prop where
  mix : X.P.follows .mixedOrders = true
  pures : PuOk X.P X.pures
  fns : ∀ p ∈ X.fns, X.P.funcs[p.1]? = some p.2 ∧ (p.2.name == "runtime.NumGoroutine") = false ∧ (∀ c, p.2.body = some c → ∀ d ∈ loopsOf c, ∀ f, assoc2 X.loops p.1 (keyOf d) = some f → LoopOk X.P d f)
  specs : ∀ p ∈ X.specs, Plain X.P p.1 ∧ SpecOk X.P p.1 p.2

theorem frameOf_rep {σ : Nat → Option Nat} : ∀ (xs : List AV) (us : List Value), RepL σ xs us → ∀ (n t : Nat), Rep σ (frameOf xs t) ((us ++ List.replicate n undef)[t]?.getD undef)
  | [], us, h, n, t => by
    simp only [RepL] at h; subst h
    simp only [frameOf, Rep, List.nil_append, List.getElem?_replicate]
    split <;> rfl
  | x :: xs, us, h, n, t => by
    simp only [RepL] at h
    obtain ⟨v, us', rfl, h1, h2⟩ := h
    cases t with
    | zero => simpa [frameOf] using h1
    | succ t => simpa [frameOf] using frameOf_rep xs us' h2 n t

theorem results_rep {P : Program} {w0 : World} {σ : Nat → Option Nat} {s : St} {a : Go.Act} {w : World} (hS : Sat w0 σ s a w) : ∀ (rs : List ResultVar) (l : List AV), resultsA P s rs = some l →
    ∃ vs, (rs.mapM fun r => (match r with | .tmp t => pure (a.tmps.getD t undef) | .cell x t => do loadVar t (← asAddr (a.tmps.getD x undef)) : Sem Value)).run P w = .ok vs w ∧ RepL σ l vs
  | [], l, h => by
    simp [resultsA] at h; subst h
    exact ⟨[], rfl, by simp [RepL]⟩
  | .tmp t :: rs, l, h => by
    simp only [resultsA, Option.map_eq_some_iff] at h
    obtain ⟨l', h1, rfl⟩ := h
    obtain ⟨vs, h2, h3⟩ := results_rep hS rs l' h1
    refine ⟨a.tmps.getD t undef :: vs, ?_, by simp only [RepL]; exact ⟨_, _, rfl, hS.tm t, h3⟩⟩
    simp only [List.mapM_cons, Sem.run_bind, Sem.run_pure, Result.andThen_ok, h2]
  | .cell x t :: rs, l, h => by
    have hx := hS.tm x
    simp only [resultsA] at h
    split at h
    · rename_i id row st col agg n h1 h2 h3
      rw [h1] at hx; simp only [Rep] at hx
      obtain ⟨b, hb1, hb2⟩ := hx
      cases hb : s.hp id with
      | none => simp [hb] at h
      | some blk =>
        obtain ⟨m, vs, k1, k2, k3, k4⟩ := hS.h.cell id blk hb
        rw [hb1] at k1; cases k1
        simp only [hb] at h
        cases agg with
        | true =>
          simp only [cond_true] at h
          cases hl : Nat.ble (row * st + col + n) (lenA blk.cs) with
          | false => simp [hl] at h
          | true =>
            simp only [hl, cond_true, Option.map_eq_some_iff, takeA_eq, dropA_eq] at h
            obtain ⟨l', h4, rfl⟩ := h
            simp only [Nat.ble_eq, lenA_eq] at hl
            obtain ⟨us, h5, h6⟩ := results_rep hS rs l' h4
            refine ⟨.agg ((vs.drop (row * st + col)).take n).toArray :: us, ?_, ?_⟩
            · have := run_loads (P := P) (w := w) (n := n) k2 (by rw [← k3.length]; exact hl)
              have hlv : (loadVar t ⟨b, row * st + col, none⟩).run P w = .ok (.agg ((vs.drop (row * st + col)).take n).toArray) w := by
                simp only [loadVar, Sem.run_bind, Sem.run_pure, Result.andThen_ok, run_agg h2, run_size h3, if_true, this]
              have ha : asAddr (a.tmps.getD x undef) = pure ⟨b, row * st + col, none⟩ := by rw [hb2]; rfl
              simp only [List.mapM_cons, Sem.run_bind, Sem.run_pure, Result.andThen_ok, ha, hlv, h5]
            · simp only [RepL]
              exact ⟨_, _, rfl, by simp only [Rep]; exact ⟨_, (k3.drop _).take _, rfl⟩, h6⟩
        | false =>
          simp only [cond_false, nth_eq] at h
          cases hc : blk.cs[row * st + col]? with
          | none => simp [hc] at h
          | some y =>
            simp only [hc, Option.map_eq_some_iff] at h
            obtain ⟨l', h4, rfl⟩ := h
            obtain ⟨us, h5, h6⟩ := results_rep hS rs l' h4
            obtain ⟨v, hv1, hv2⟩ := k3.get hc
            have hlt : row * st + col < vs.length := (List.getElem?_eq_some_iff.1 hv1).1
            refine ⟨v :: us, ?_, by simp only [RepL]; exact ⟨_, _, rfl, hv2, h6⟩⟩
            have := run_load1 (P := P) (w := w) k2 (show row * st + col + 1 ≤ vs.length by omega)
            simp only [List.getD, hv1, Option.getD_some] at this
            have hlv : (loadVar t ⟨b, row * st + col, none⟩).run P w = .ok v w := by
              simp only [loadVar, Sem.run_bind, Sem.run_pure, Result.andThen_ok, run_agg h2, Bool.false_eq_true, if_false, this]
            have ha : asAddr (a.tmps.getD x undef) = pure ⟨b, row * st + col, none⟩ := by rw [hb2]; rfl
            simp only [List.mapM_cons, Sem.run_bind, Sem.run_pure, Result.andThen_ok, ha, hlv, h5]
    · simp at h

theorem tup_rep {σ : Nat → Option Nat} {l : List AV} {vs : List Value} (h : RepL σ l vs) : Rep σ (tupA l) (if h : vs.toArray.size = 1 then vs.toArray[0] else .tuple vs.toArray) := by
  match l, vs, h with
  | [], vs, h => simp only [RepL] at h; subst h; simp only [tupA, Rep]; exact ⟨[], by simp [RepL], by simp⟩
  | [x], vs, h =>
    simp only [RepL] at h
    obtain ⟨v, us, rfl, h1, rfl⟩ := h
    simpa [tupA] using h1
  | x :: y :: l, vs, h =>
    have hl := h.length
    have : ¬ vs.toArray.size = 1 := by simp at hl ⊢; omega
    rw [dif_neg this]
    simp only [tupA, Rep]
    exact ⟨vs, h, rfl⟩

theorem results_run {P : Program} {w0 : World} {σ : Nat → Option Nat} {s : St} {a : Go.Act} {w : World} (hS : Sat w0 σ s a w) {fn : Func} {l : List AV} (h : resultsA P s fn.results.toList = some l) : ∃ v, (results fn a.tmps).run P w = .ok v w ∧ Rep σ (tupA l) v := by
  obtain ⟨vs, h1, h2⟩ := results_rep hS _ _ h
  refine ⟨_, ?_, tup_rep h2⟩
  unfold results
  rw [Array.mapM_eq_mapM_toList]
  simp only [Sem.run_bind, Sem.run_map, Sem.run_pure]
  have key : ∀ F : ResultVar → Sem Value, (∀ r, F r = (match r with | .tmp t => pure (a.tmps.getD t undef) | .cell x t => do loadVar t (← asAddr (a.tmps.getD x undef)))) → (fn.results.toList.mapM F).run P w = .ok vs w := fun F hF => by
    rw [show F = _ from funext hF]; exact h1
  rw [key _ (fun r => by cases r <;> rfl)]
  rfl

theorem evFn_sound {X : Ctx} (hX : CtxOk X) {α : Type} (R : α → Prop) : ∀ (m : Nat), CTok X.P (evFn (α := α) X m) R
  | 0 => by intro w0 σ hp nx w f xs us K _ _ _ h; simp [evFn, Tree.sat] at h
  | m + 1 => by
    intro w0 σ hp nx w f xs us K hh hb hu h
    simp only [evFn] at h
    cases hpx : (assoc X.pures f).bind (· xs) with
    | some y =>
      obtain ⟨c, x⟩ := y
      simp only [hpx] at h
      cases hg : assoc X.pures f with
      | none => simp [hg] at hpx
      | some g =>
        simp only [hg, Option.bind_some] at hpx
        obtain ⟨h1, h2⟩ := hX.pures _ (assoc_mem hg)
        cases c with
        | false => simp [Tree.sat] at h
        | true =>
          refine ⟨h1.run _ _, (h2 σ w xs us x hu hpx).mono ?_⟩
          rintro e w' ⟨v, rfl, hv, hbl⟩
          exact ⟨v, x, σ, hp, nx, rfl, Ext.refl _, hh.below hbl, hb.trans (hbl.mono hb.size), hv, by simpa using h⟩
    | none =>
    simp only [hpx] at h
    cases hs : assoc X.specs f with
    | some c =>
      simp only [hs, sat_bind] at h
      obtain ⟨h1, h2⟩ := hX.specs _ (assoc_mem hs)
      exact ⟨h1.run _ _, h2 w0 σ hp nx w xs us _ hh hb hu h⟩
    | none =>
      simp only [hs] at h
      cases hf : assoc X.fns f with
      | none => simp [hf, Tree.sat] at h
      | some fn =>
        simp only [hf] at h
        obtain ⟨h1, h2, h3⟩ := hX.fns _ (assoc_mem hf)
        simp only at h1 h2 h3
        cases hbd : fn.body with
        | none => simp [hbd, Tree.sat] at h
        | some c =>
          simp only [hbd] at h
          cases hn : Nat.ble (lenA xs) fn.ntmps with
          | false => simp [hn, Tree.sat] at h
          | true =>
            simp only [hn, cond_true] at h
            simp only [Nat.ble_eq, lenA_eq] at hn
            have hpl : Plain X.P f := ⟨fn, h1, h2, by simp [hbd]⟩
            refine ⟨hpl.run _ _, ?_⟩
            have hlen := hu.length
            have hS : Sat w0 σ { tm := frameOf xs, n := fn.ntmps, hp := hp, nx := nx } { tmps := us.toArray ++ Array.replicate (fn.ntmps - us.toArray.size) undef, defers := [] } w := by
              refine ⟨hh, fun t => ?_, ?_, rfl, hb⟩
              · have := frameOf_rep xs us hu (fn.ntmps - us.toArray.size) t
                have he : (us.toArray ++ Array.replicate (fn.ntmps - us.toArray.size) undef).getD t undef = (us ++ List.replicate (fn.ntmps - us.toArray.size) undef)[t]?.getD undef := by
                  rw [Array.getD_eq_getD_getElem?, ← Array.getElem?_toList]
                  simp
                rw [he]; exact this
              · simp; omega
            have hw := evC_sound hX.mix hX.pures (evFn_sound hX R m) X.u (assoc2 X.loops f) c (fun d hd g hg => h3 c hbd d hd g hg) σ _ _ w _ hS h
            refine calls_of_wp h1 hbd (wp_mono hw ?_)
            rintro e a' w' ⟨τ, s', he, hS', h'⟩
            have fin : (match resultsA X.P s' fn.results.toList with | some l => K (tupA l) s'.hp s'.nx | none => .fail : Tree α).sat R →
                ∃ v, (results fn a'.tmps).run X.P w' = .ok v w' ∧ ∃ v' x τ hp' nx', Ending.returned v = .returned v' ∧ Ext σ τ ∧ HRel w0.heap.size τ hp' nx' w' ∧ Below w0.heap.size w0 w' ∧ Rep τ x v' ∧ (K x hp' nx').sat R := by
              intro hh'
              cases hr : resultsA X.P s' fn.results.toList with
              | none => simp [hr, Tree.sat] at hh'
              | some l =>
                simp only [hr] at hh'
                obtain ⟨v, hv1, hv2⟩ := results_run hS' hr
                exact ⟨v, hv1, v, tupA l, τ, s'.hp, s'.nx, rfl, he, hS'.h, hS'.bl, hv2, hh'⟩
            cases e with
            | normal => exact ⟨hS'.df, fin h'⟩
            | ret => exact ⟨hS'.df, fin h'⟩
            | _ => simp [Tree.sat] at h'
end Ev
end Go.Proofs.Ytmmhbianajpdgaa
