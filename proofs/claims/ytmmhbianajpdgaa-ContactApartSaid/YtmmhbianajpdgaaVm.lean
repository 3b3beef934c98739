/- That the symbolic evaluator of the text Va is sound: functions, their summaries, rounds of loops over functions. -/
import Derived.Test.YtmmhbianajpdgaaVh
namespace Go.Proofs.Ytmmhbianajpdgaa
open Go.RowKit
namespace V

/-- what is owed for the summary of a function that turns memory -/
def SpecOk (P : Program) (f : FuncId) (c : Heap → Nat → List AV → Tree (Out × Heap × Nat)) : Prop :=
  ∀ (w0 : World) (σ : Env) (hp : Heap) (nx : Nat) (w : World) (xs : List AV) (us : List Value) (R : Out × Heap × Nat → Prop),
    HRel w0.heap.size σ hp nx w → Below w0.heap.size w0 w → RepL σ xs us → (c hp nx xs).sat R →
    Calls' P f us.toArray w fun e w' => ∃ y τ hp' nx', Ext σ τ ∧ HRel w0.heap.size τ hp' nx' w' ∧ Below w0.heap.size w0 w' ∧ OutR τ y e ∧ R (y, hp', nx')

structure CtxOk (X : Ctx) : Prop where
  mix : X.P.follows .mixedOrders = true
  pures : PuOk X.P X.pures
  fns : ∀ p ∈ X.fns, X.P.funcs[p.1]? = some p.2 ∧ (p.2.name == "runtime.NumGoroutine") = false ∧ (∀ c, p.2.body = some c → ∀ d ∈ loopsOf c, ∀ f, assoc2 X.loops p.1 (keyOf d) = some f → LoopOk X.P p.1 d f)
  specs : ∀ p ∈ X.specs, Plain X.P p.1 ∧ SpecOk X.P p.1 p.2

theorem frameOf_rep {σ : Env} : ∀ (xs : List AV) (us : List Value), RepL σ xs us → ∀ (n t : Nat), Rep σ (frameOf xs t) ((us ++ List.replicate n undef)[t]?.getD undef)
  | [], us, h, n, t => by
    simp only [RepL] at h; subst h
    simp only [frameOf, Rep, List.nil_append, List.getElem?_replicate]
    split <;> rfl
  | x :: xs, us, h, n, t => by
    simp only [RepL] at h
    obtain ⟨v, us', rfl, h1, h2⟩ := h
    cases t with
    | zero => simpa [frameOf] using h1
    | succ t => simpa [frameOf] using frameOf_rep xs us' h2 n t

theorem results_rep {P : Program} {rd : Bool} {w0 : World} {σ : Env} {s : St} {a : Go.Act} {w : World} (hS : Sat rd w0 σ s a w) : ∀ (rs : List ResultVar) (l : List AV), resultsA P s rs = some l →
    ∃ vs, (rs.mapM fun r => (match r with | .tmp t => pure (a.tmps.getD t undef) | .cell x t => do loadVar t (← asAddr (a.tmps.getD x undef)) : Sem Value)).run P w = .ok vs w ∧ RepL σ l vs
  | [], l, h => by
    simp [resultsA] at h; subst h
    exact ⟨[], rfl, by simp [RepL]⟩
  | .tmp t :: rs, l, h => by
    simp only [resultsA, Option.map_eq_some_iff] at h
    obtain ⟨l', h1, rfl⟩ := h
    obtain ⟨vs, h2, h3⟩ := results_rep hS rs l' h1
    refine ⟨a.tmps.getD t undef :: vs, ?_, by simp only [RepL]; exact ⟨_, _, rfl, hS.tm t, h3⟩⟩
    simp only [List.mapM_cons, Sem.run_bind, Sem.run_pure, Result.andThen_ok, h2]
  | .cell x t :: rs, l, h => by
    have hx := hS.tm x
    simp only [resultsA] at h
    split at h
    · rename_i id row st col agg n h1 h2 h3
      rw [h1] at hx; simp only [Rep] at hx
      obtain ⟨b, hb1, hb2⟩ := hx
      split at h
      · rename_i blk hb
        obtain ⟨m, vs, k1, k2, k3, k4⟩ := hS.h.ob id _ hb
        rw [hb1] at k1; cases k1
        cases agg with
        | true =>
          simp only [cond_true] at h
          cases hl : Nat.ble (row * st + col + n) (lenA blk.cs) with
          | false => simp [hl] at h
          | true =>
            simp only [hl, cond_true, Option.map_eq_some_iff, takeA_eq, dropA_eq] at h
            obtain ⟨l', h4, rfl⟩ := h
            simp only [Nat.ble_eq, lenA_eq] at hl
            obtain ⟨us, h5, h6⟩ := results_rep hS rs l' h4
            refine ⟨.agg ((vs.drop (row * st + col)).take n).toArray :: us, ?_, ?_⟩
            · have := run_loads (P := P) (w := w) (n := n) k2 (by rw [← k3.length]; exact hl)
              have hlv : (loadVar t ⟨b, row * st + col, none⟩).run P w = .ok (.agg ((vs.drop (row * st + col)).take n).toArray) w := by
                simp only [loadVar, Sem.run_bind, Sem.run_pure, Result.andThen_ok, run_agg h2, run_size h3, if_true, this]
              have ha : asAddr (a.tmps.getD x undef) = pure ⟨b, row * st + col, none⟩ := by rw [hb2]; rfl
              simp only [List.mapM_cons, Sem.run_bind, Sem.run_pure, Result.andThen_ok, ha, hlv, h5]
            · simp only [RepL]
              exact ⟨_, _, rfl, by simp only [Rep]; exact ⟨_, (k3.drop _).take _, rfl⟩, h6⟩
        | false =>
          simp only [cond_false, nth_eq] at h
          cases hc : blk.cs[row * st + col]? with
          | none => simp [hc] at h
          | some y =>
            simp only [hc, Option.map_eq_some_iff] at h
            obtain ⟨l', h4, rfl⟩ := h
            obtain ⟨us, h5, h6⟩ := results_rep hS rs l' h4
            obtain ⟨v, hv1, hv2⟩ := k3.get hc
            have hlt : row * st + col < vs.length := (List.getElem?_eq_some_iff.1 hv1).1
            refine ⟨v :: us, ?_, by simp only [RepL]; exact ⟨_, _, rfl, hv2, h6⟩⟩
            have := run_load1 (P := P) (w := w) k2 (show row * st + col + 1 ≤ vs.length by omega)
            simp only [List.getD, hv1, Option.getD_some] at this
            have hlv : (loadVar t ⟨b, row * st + col, none⟩).run P w = .ok v w := by
              simp only [loadVar, Sem.run_bind, Sem.run_pure, Result.andThen_ok, run_agg h2, Bool.false_eq_true, if_false, this]
            have ha : asAddr (a.tmps.getD x undef) = pure ⟨b, row * st + col, none⟩ := by rw [hb2]; rfl
            simp only [List.mapM_cons, Sem.run_bind, Sem.run_pure, Result.andThen_ok, ha, hlv, h5]
      · simp at h
    · simp at h

theorem tup_rep {σ : Env} {l : List AV} {vs : List Value} (h : RepL σ l vs) : Rep σ (tupA l) (if h : vs.toArray.size = 1 then vs.toArray[0] else .tuple vs.toArray) := by
  match l, vs, h with
  | [], vs, h => simp only [RepL] at h; subst h; simp only [tupA, Rep]; exact ⟨[], by simp [RepL], by simp⟩
  | [x], vs, h =>
    simp only [RepL] at h
    obtain ⟨v, us, rfl, h1, rfl⟩ := h
    simpa [tupA] using h1
  | x :: y :: l, vs, h =>
    have hl := h.length
    have : ¬ vs.toArray.size = 1 := by simp at hl ⊢; omega
    rw [dif_neg this]
    simp only [tupA, Rep]
    exact ⟨vs, h, rfl⟩

theorem results_run {P : Program} {rd : Bool} {w0 : World} {σ : Env} {s : St} {a : Go.Act} {w : World} (hS : Sat rd w0 σ s a w) {fn : Func} {l : List AV} (h : resultsA P s fn.results.toList = some l) : ∃ v, (results fn a.tmps).run P w = .ok v w ∧ Rep σ (tupA l) v := by
  obtain ⟨vs, h1, h2⟩ := results_rep hS _ _ h
  refine ⟨_, ?_, tup_rep h2⟩
  unfold results
  rw [Array.mapM_eq_mapM_toList]
  simp only [Sem.run_bind, Sem.run_map, Sem.run_pure]
  have key : ∀ F : ResultVar → Sem Value, (∀ r, F r = (match r with | .tmp t => pure (a.tmps.getD t undef) | .cell x t => do loadVar t (← asAddr (a.tmps.getD x undef)))) → (fn.results.toList.mapM F).run P w = .ok vs w := fun F hF => by
    rw [show F = _ from funext hF]; exact h1
  rw [key _ (fun r => by cases r <;> rfl)]
  rfl

/-! a call of a function with a summary by data: lists of the call's own are read as they stand -/
open Classical in
/-- cells that stay, with those of some lists of the call's own -/
noncomputable def frozen (σ : Env) (hp : Heap) (ids : List Nat) (w : World) (b o : Nat) : Option Value :=
  if ∃ id ∈ ids, hp id ≠ none ∧ σ id = some b then w.cell? ⟨b, o, none⟩ else σ.mem b o
theorem frozen_ok {B : Nat} {σ : Env} {hp : Heap} {nx : Nat} {w : World} (h : HRel B σ hp nx w) (ids : List Nat) : MemOk (frozen σ hp ids w) w := by
  intro b o v hv
  unfold frozen at hv
  split at hv
  · exact hv
  · exact h.mem b o v hv
theorem frozen_ge {B : Nat} {σ : Env} {hp : Heap} {nx : Nat} {w : World} (h : HRel B σ hp nx w) (ids : List Nat) : ∀ b o v, σ.mem b o = some v → frozen σ hp ids w b o = some v := by
  intro b o v hv
  unfold frozen
  split
  · exact h.mem b o v hv
  · exact hv
theorem ro1_rep {P : Program} {B : Nat} {σ : Env} {hp : Heap} {nx : Nat} {w : World} (h : HRel B σ hp nx w) (ids : List Nat) {x : AV} {v : Value} (hx : Rep σ x v) (hi : ∀ i ∈ ids1 x, i ∈ ids) : Rep { σ with mem := frozen σ hp ids w } (ro1 P hp x) v := by
  have hext : Ext σ { σ with mem := frozen σ hp ids w } := ⟨fun _ _ h => h, frozen_ge h ids, fun _ _ h => h, rfl⟩
  cases x with
  | own id =>
    simp only [ro1]
    split
    · rename_i A hA
      obtain ⟨v', us, h1, h2, h3, h4, h5⟩ := h.ob id _ hA
      simp only [Rep] at hx ⊢
      have e : v' = v := Option.some.inj (h1.symm.trans hx.1)
      subst e
      have hul := LR.len (fun x vs => RepD.len A.c x vs) h3
      refine slD_mk ?_
      rcases h2.2 with ⟨rfl, k⟩ | ⟨g, cap, cur, rfl, k2, k3, k4, k5, k6, k7⟩
      · exact .inl ⟨rfl, List.eq_nil_of_length_eq_zero k⟩
      · simp only [maxLen] at k5
        refine .inr ⟨g, 0, none, cap, us, rfl, k4, by simp only [maxK]; omega, ⟨.inr rfl, fun j u hj => ?_⟩, LR.mono (fun x vs => RepD.mono (frozen_ge h ids) _ x vs) h3⟩
        show frozen σ hp ids w g (0 + j) = some u
        unfold frozen
        rw [if_pos ⟨id, hi id (by simp [ids1]), by rw [hA]; simp, (h5 g).1 rfl⟩]
        have := h2.cells (g := g) rfl j u hj
        rwa [Addr.add_lit] at this
    · exact hx.mono hext
  | sl id off st len cap =>
    simp only [ro1]
    split
    · rename_i b hb
      split
      · rename_i c hc
        cases hbb : (Nat.beq st c.size && Nat.ble (off + len * st) (lenA b.cs)) with
        | false => simp only [cond_false]; exact hx.mono hext
        | true =>
          simp only [cond_true]
          simp only [Bool.and_eq_true, Nat.beq_eq, Nat.ble_eq, lenA_eq] at hbb
          obtain ⟨hb1, hb2⟩ := hbb
          split
          · rename_i xs hxs
            subst hb1
            obtain ⟨n, vs, h1, h2, h3, h4⟩ := h.ob id _ hb
            simp only [Rep] at hx ⊢
            obtain ⟨hlc, hcap, b', hb', rfl⟩ := hx
            rw [h1] at hb'; cases hb'
            simp only [takeA_eq, dropA_eq] at hxs
            have hcl : ((b.cs.drop off).take (len * c.size)).length = len * c.size := by simp; omega
            obtain ⟨k1, k2⟩ := decRows_rep len _ _ xs hxs ((h3.drop off).take _) hcl
            refine slD_mk (.inr ⟨n, off, none, cap, _, by rw [k2], ?_, hcap, ⟨.inr rfl, fun j u hj => ?_⟩, LR.mono (fun x vs => RepD.mono (frozen_ge h ids) _ x vs) k1⟩)
            · rw [k2]; exact hlc.2
            · show frozen σ hp ids w n (off + j) = some u
              unfold frozen
              rw [if_pos ⟨id, hi id (by simp [ids1]), by rw [hb]; simp, h1⟩, cell_of_row w n (off + j) vs.toArray b.ty (0, 0) h2]
              rw [List.getElem?_take] at hj
              split at hj
              · rw [List.getElem?_drop] at hj; simpa using hj
              · simp at hj
          · exact hx.mono hext
      · exact hx.mono hext
    · exact hx.mono hext
  | _ => simp only [ro1]; exact hx.mono hext
theorem toRO_rep {P : Program} {B : Nat} {σ : Env} {hp : Heap} {nx : Nat} {w : World} (h : HRel B σ hp nx w) (ids : List Nat) {x : AV} {v : Value} (hx : Rep σ x v) (hi : ∀ i ∈ idsOf x, i ∈ ids) : Rep { σ with mem := frozen σ hp ids w } (toRO P hp x) v := by
  cases x with
  | agg cs =>
    simp only [toRO, Rep] at hx ⊢
    obtain ⟨vs, h1, h2⟩ := hx
    refine ⟨vs, ?_, h2⟩
    have hi' : ∀ y ∈ cs, ∀ i ∈ ids1 y, i ∈ ids := fun y hy i hii => hi i (by simp only [idsOf, List.mem_flatMap]; exact ⟨y, hy, hii⟩)
    clear h2 hi
    induction cs generalizing vs with
    | nil => simpa only [List.map_nil, RepL] using h1
    | cons y ys ih =>
      simp only [List.map_cons, RepL] at h1 ⊢
      obtain ⟨u, us, rfl, k1, k2⟩ := h1
      exact ⟨u, us, rfl, ro1_rep h ids k1 (hi' y (by simp)), ih us k2 (fun z hz => hi' z (by simp [hz]))⟩
  | _ => simp only [toRO]; exact ro1_rep h ids hx hi
theorem toROs_rep {P : Program} {B : Nat} {σ : Env} {hp : Heap} {nx : Nat} {w : World} (h : HRel B σ hp nx w) (ids : List Nat) : ∀ {xs : List AV} {us : List Value}, RepL σ xs us → (∀ x ∈ xs, ∀ i ∈ idsOf x, i ∈ ids) → RepL { σ with mem := frozen σ hp ids w } (xs.map (toRO P hp)) us
  | [], _, hu, _ => by simpa only [List.map_nil, RepL] using hu
  | x :: xs, us, hu, hi => by
    simp only [List.map_cons, RepL] at hu ⊢
    obtain ⟨v, us', rfl, k1, k2⟩ := hu
    exact ⟨v, us', rfl, toRO_rep h ids k1 (hi x (by simp)), toROs_rep h ids k2 (fun y hy => hi y (by simp [hy]))⟩
theorem drop1_sub : ∀ (ids : List Nat) (hp : Heap) (j : Nat) (o : Ob), drop1 hp ids j = some o → hp j = some o ∧ j ∉ ids
  | [], _, _, _, h => ⟨h, by simp⟩
  | id :: ids, hp, j, o, h => by
    obtain ⟨h1, h2⟩ := drop1_sub ids (upd hp id none) j o h
    by_cases hj : j = id
    · subst hj; rw [upd_same] at h1; cases h1
    · rw [upd_other _ _ hj] at h1
      exact ⟨h1, by simp [hj, h2]⟩
theorem pure_sound {P : Program} {f : FuncId} {g : PureT} (hg : PureOk P f g) {α : Type} {R : α → Prop} {w0 : World} {σ : Env} {hp : Heap} {nx : Nat} {w : World} {xs : List AV} {us : List Value} {x : AV} {K : Out → Heap → Nat → Tree α}
    (hh : HRel w0.heap.size σ hp nx w) (hb : Below w0.heap.size w0 w) (hu : RepL σ xs us) (hx : g.run (xs.map (toRO P hp)) = some (true, x)) (h : (K (.ret x) (bif g.flat then hp else drop1 hp (xs.flatMap idsOf)) nx).sat R) :
    Calls' P f us.toArray w (CRes w0 σ K R) := by
  have hro := toROs_rep (P := P) hh (xs.flatMap idsOf) hu (fun y hy i hi => List.mem_flatMap.2 ⟨y, hy, hi⟩)
  refine (hg { σ with mem := frozen σ hp (xs.flatMap idsOf) w } w _ us x hh.bound (frozen_ok hh _) hro hx).mono ?_
  rintro e w' ⟨v, m', rfl, m1, m2, m3, m4, m5, m6⟩
  have hB := hb.trans (m6.mono hb.size)
  cases hf : g.flat with
  | true =>
    rw [hf, cond_true] at h
    exact ⟨.ret x, σ, hp, nx, Ext.refl _, hh.below m6, hB, m5 hf σ (fun _ _ h => h), h⟩
  | false =>
    rw [hf, cond_false] at h
    have he : Ext σ { σ with mem := m' } := ⟨fun _ _ h => h, fun b o u hu => m2 b o u (frozen_ge hh _ b o u hu), fun _ _ h => h, rfl⟩
    have hlive : ∀ j, drop1 hp (xs.flatMap idsOf) j ≠ none → hp j ≠ none ∧ j ∉ xs.flatMap idsOf := by
      intro j hj
      cases hc : drop1 hp (xs.flatMap idsOf) j with
      | none => exact absurd hc hj
      | some o => obtain ⟨k1, k2⟩ := drop1_sub _ _ _ _ hc; exact ⟨by rw [k1]; simp, k2⟩
    have hb' := hh.below m6
    refine ⟨.ret x, { σ with mem := m' }, drop1 hp (xs.flatMap idsOf), nx, he, ⟨fun j o hj => ?_, fun i j n hi hj => hh.inj i j n (hlive i hi).1 (hlive j hj).1, fun i hi => ?_, hb'.bound, m1, fun i n hi hn o => ?_, fun b o v hv hlt => ?_⟩, hB, Rep.mono3 (σ := ⟨fun _ => none, m', fun _ => none, fun _ _ => none⟩) (τ := { σ with mem := m' }) ⟨fun i b h => (by cases h), fun _ _ _ h => h, fun i u h => (by cases h)⟩ x v (m4 hf), h⟩
    · exact (hb'.ob j o (drop1_sub _ _ _ _ hj).1).keep he rfl (fun _ _ => rfl)
    · obtain ⟨f1, f2, f3⟩ := hh.fresh i hi
      refine ⟨f1, f2, ?_⟩
      cases hc : drop1 hp (xs.flatMap idsOf) i with
      | none => rfl
      | some o => rw [(drop1_sub _ _ _ _ hc).1] at f3; cases f3
    · have hl := hlive i hi
      cases hc : m' n o with
      | none => exact hc
      | some u =>
        rcases m3 n o u hc with k | k
        · exfalso
          simp only [frozen] at k
          split at k
          · rename_i hex
            obtain ⟨id, hid, hne, hat⟩ := hex
            have := hh.inj i id n hl.1 hne hn hat
            subst this
            exact hl.2 hid
          · rw [hh.sep i n hl.1 hn o] at k; cases k
        · have := hh.bound i n hn; omega
    · rcases m3 b o v hv with k | k
      · simp only [frozen] at k
        split at k
        · rename_i hex
          obtain ⟨id, hid, hne, hat⟩ := hex
          have := hh.ge hne hat
          omega
        · exact hh.low b o v k hlt
      · have := hb.size; omega

/-! a function that leaves -/
theorem leave_sound {P : Program} {α : Type} {R : α → Prop} {cT : CallT α} {w0 : World} {σ : Env} : ∀ (ds : List DfA) (DS : List Deferred) (hp : Heap) (nx : Nat) (w : World) (fr : Frame) (K : Heap → Nat → Tree α), fr.mode ≠ .run → fr.defers = DS → DfL σ ds DS →
    HRel w0.heap.size σ hp nx w → Below w0.heap.size w0 w → (evLeave cT ds hp nx K).sat R → ∀ cs, ∃ w' hp' nx', Steps P (lone fr cs w) (lone { fr with defers := [] } cs w') ∧ HRel w0.heap.size σ hp' nx' w' ∧ Below w0.heap.size w0 w' ∧ (K hp' nx').sat R
  | [], DS, hp, nx, w, fr, K, hm, hd, hD, hh, hb, h, cs => by
    cases hD
    refine ⟨w, hp, nx, ?_, hh, hb, h⟩
    have : ({ fr with defers := [] } : Frame) = fr := by rw [← hd]
    rw [this]
    exact Steps.refl P _
  | .mark id :: ds, DS, hp, nx, w, fr, K, hm, hd, hD, hh, hb, h, cs => by
    cases hD with
    | cons hD1 hD2 =>
      rename_i D Ds
      obtain ⟨b, hb1, rfl⟩ := hD1
      simp only [evLeave] at h
      split at h <;> try (simp [Tree.sat] at h; done)
      rename_i ho
      obtain ⟨n, k1, k2, k3⟩ := hh.ob id _ ho
      have hnb : n = b := Option.some.inj (k1.symm.trans hb1)
      subst hnb
      have s1 := step_collected (P := P) (cs := cs) hm hd rfl (run_takeDeferred (P := P) k2)
      obtain ⟨w', hp', nx', s2, r1, r2, r3⟩ := leave_sound ds Ds (upd hp id none) nx _ { fr with defers := [] ++ Ds } K hm rfl hD2 (hh.gone (by rw [ho]; simp) k1 _) (below_putObj hb k3 _) h cs
      exact ⟨w', hp', nx', .head s1 s2, r1, r2, r3⟩
  | .call f args cap :: ds, DS, hp, nx, w, fr, K, _, _, _, _, _, h, _ => by simp [evLeave, Tree.sat] at h

theorem pairs2_rep {σ : Env} : ∀ (ps : List Nat) (xs : List AV) (us : List Value) (tm : Nat → AV) (tmps : Array Value), RepL σ xs us → ps.length = xs.length → (∀ t, Rep σ (tm t) (tmps.getD t undef)) → (∀ p ∈ ps, p < tmps.size) →
    (∀ t, Rep σ (pairs2 ps xs tm t) (((ps.zip us).foldl (fun tmps (p : Nat × Value) => tmps.setIfInBounds p.1 p.2) tmps).getD t undef)) ∧ ((ps.zip us).foldl (fun tmps (p : Nat × Value) => tmps.setIfInBounds p.1 p.2) tmps).size = tmps.size
  | [], xs, us, tm, tmps, _, _, ht, _ => by simpa [pairs2] using ht
  | p :: ps, [], us, tm, tmps, _, hl, _, _ => by simp at hl
  | p :: ps, x :: xs, us, tm, tmps, hu, hl, ht, hp => by
    simp only [RepL] at hu
    obtain ⟨v, us', rfl, h1, h2⟩ := hu
    have hlt := hp p (by simp)
    have ih := pairs2_rep ps xs us' (upd tm p x) (tmps.setIfInBounds p v) h2 (by simpa using hl) (fun t => tm_put ht p hlt h1 t) (fun q hq => by simpa using hp q (by simp [hq]))
    simp only [pairs2, List.zip_cons_cons, List.foldl_cons]
    exact ⟨ih.1, by simpa using ih.2⟩

theorem dfl_nil {σ : Env} {Ds : List Deferred} (h : DfL σ [] Ds) : Ds = [] := by cases h; rfl

theorem round_sound {X : Ctx} (hX : CtxOk X) {α : Type} {R : α → Prop} {m : Nat} (ih : CTok X.P (evFn (α := α) X m) R) {w0 : World} {σ : Env} {hp : Heap} {nx : Nat} {w : World} {id : Nat} {xs : List AV} {us : List Value} {K : Out → Heap → Nat → Tree α}
    (hh : HRel w0.heap.size σ hp nx w) (hb : Below w0.heap.size w0 w) (hu : RepL σ xs us) (h : (evFn X (m + 1) (.yld id) xs hp nx K).sat R) :
    ∀ b, σ id = some b → ∃ l f tmps assign body, (Instr.yield b us.toArray).run X.P w = .ok (.round l f tmps assign body) w ∧ RoundX X.P l f tmps assign body w (CRes w0 σ K R) := by
  intro b hσ
  simp only [evFn] at h
  split at h <;> try (simp [Tree.sat] at h; done)
  rename_i r hr
  obtain ⟨n, L, l1, l2, l3, l4⟩ := hh.ob id _ hr
  have hnb : n = b := Option.some.inj (l1.symm.trans hσ)
  subst hnb
  split at h <;> try (simp [Tree.sat] at h; done)
  rename_i hst
  cases hchk : (Nat.beq (lenA xs) (lenA r.params) && (r.params.all (fun p => Nat.blt p r.n) && isFn X r.fn)) with
  | false => rw [hchk] at h; simp [Tree.sat] at h
  | true =>
    rw [hchk, cond_true] at h
    simp only [Bool.and_eq_true, Nat.beq_eq, lenA_eq] at hchk
    obtain ⟨hc1, hc2, hc3⟩ := hchk
    have hps : L.params.size = xs.length := by rw [hc1, ← l3.params]; simp
    have hul := hu.length
    obtain ⟨t1, t2⟩ := pairs2_rep r.params xs us r.tm L.tmps hu hc1.symm l3.tm (fun p hp => by
      have := List.all_eq_true.1 hc2 p hp
      rw [l3.n]; exact blt_t.1 this)
    have hfold : (L.params.zip us.toArray).foldl (fun tmps (t, a) => tmps.setIfInBounds t a) L.tmps = (r.params.zip us).foldl (fun tmps (p : Nat × Value) => tmps.setIfInBounds p.1 p.2) L.tmps := by
      rw [← l3.params, ← Array.foldl_toList]
      simp
    have hy := run_yield (P := X.P) (args := us.toArray) l2 (by simp; omega)
    rw [hfold] at hy
    refine ⟨_, _, _, _, _, hy, roundX_of ?_ ?_⟩
    · rw [l3.fn]
      unfold isFn at hc3
      split at hc3
      · rename_i g hg
        exact ⟨g, (hX.fns _ (assoc_mem hg)).1⟩
      · simp at hc3
    · rw [l3.fn, l3.assign, l3.body]
      have hS : Sat true w0 σ { tm := pairs2 r.params xs r.tm, n := r.n, hp := hp, nx := nx, df := [], rd := true } { tmps := (r.params.zip us).foldl (fun tmps (p : Nat × Value) => tmps.setIfInBounds p.1 p.2) L.tmps, defers := [] } w :=
        ⟨hh, t1, by rw [t2]; exact l3.n, .nil, hb, rfl⟩
      refine wpX_mono (evC_sound (α := α) hX.mix hX.pures ih r.fn X.u (fun _ => none) r.assign (fun _ _ _ h => by simp at h) σ _ _ w _ hS h) ?_
      rintro e a1 w1 ⟨τ, x, s1, e1, hS1, hx1, h1⟩
      cases x <;> simp only at h1 <;> try (simp [Tree.sat] at h1; done)
      cases e <;> simp only [ExR] at hx1
      refine ⟨rfl, ?_⟩
      split at h1 <;> try (simp [Tree.sat] at h1; done)
      rename_i r1 hr1
      obtain ⟨n1, L1, m1, m2, m3, m4⟩ := hS1.h.ob id _ hr1
      have hn1 : n1 = n := Option.some.inj (m1.symm.trans (e1.1 _ _ hσ))
      subst hn1
      split at h1 <;> try (simp [Tree.sat] at h1; done)
      rename_i hst1
      refine ⟨L1, m2, m3.st.trans hst1, ?_⟩
      have hob : ∀ (W : World) (st : LoopState) (pd : Option Code), (W.heap[n1]? = some (.loop { L1 with state := st, pending := pd })) → ObRel w0.heap.size τ W id (.lp { r1 with st := st, pend := pd }) :=
        fun W st pd hW => ⟨n1, _, m1, hW, ⟨m3.tm, m3.n, m3.fn, m3.params, m3.assign, m3.body, rfl, rfl⟩, m4⟩
      have hlt : n1 < w1.heap.size := hS1.h.bound id n1 m1
      have H1 := hS1.h.turnObj (by rw [hr1]; simp) m1 (.loop { L1 with state := .busy }) (o := .lp { r1 with st := .busy })
        ⟨n1, _, m1, World.putObj_heap_same hlt, ⟨m3.tm, m3.n, m3.fn, m3.params, m3.assign, m3.body, rfl, m3.pend⟩, m4⟩
      have hS2 : Sat true w0 τ { s1 with hp := upd s1.hp id (some (.lp { r1 with st := .busy })) } a1 (w1.putObj n1 (.loop { L1 with state := .busy })) :=
        ⟨H1, hS1.tm, hS1.n, hS1.df, below_putObj hS1.bl m4 _, hS1.rd⟩
      refine wpX_mono (evC_sound (α := α) hX.mix hX.pures ih r.fn X.u (fun _ => none) r.body (fun _ _ _ h => by simp at h) τ _ a1 _ _ hS2 h1) ?_
      rintro e a2 w2 ⟨τ2, x, s2, e2, hS3, hx2, h2⟩
      split at h2 <;> try (simp [Tree.sat] at h2; done)
      rename_i r2 hr2
      obtain ⟨n2, L2, p1, p2, p3, p4⟩ := hS3.h.ob id _ hr2
      have hn2 : n2 = n1 := Option.some.inj (p1.symm.trans ((e1.trans e2).1 _ _ hσ))
      subst hn2
      have hlt2 : n2 < w2.heap.size := hS3.h.bound id n2 p1
      have fin : ∀ (st : LoopState) (pd : Option Code) (y : Bool), (K (.ret (.bool y)) (upd s2.hp id (some (.lp { r2 with st := st, pend := pd }))) s2.nx).sat R → CRes w0 σ K R (.returned (.bool y)) (w2.putObj n2 (.loop { L2 with state := st, pending := pd })) := by
        intro st pd y hk
        have H2 := hS3.h.turnObj (by rw [hr2]; simp) p1 (.loop { L2 with state := st, pending := pd }) (o := .lp { r2 with st := st, pend := pd })
          ⟨n2, _, p1, World.putObj_heap_same hlt2, ⟨p3.tm, p3.n, p3.fn, p3.params, p3.assign, p3.body, rfl, rfl⟩, p4⟩
        exact ⟨.ret (.bool y), τ2, _, _, e1.trans e2, H2, below_putObj hS3.bl p4 _, by simp only [OutR, Rep], hk⟩
      cases x <;> cases e <;> simp only [ExR] at hx2 <;> simp only at h2
      · exact ⟨L2, p2, fin _ _ _ h2⟩
      · subst hx2
        exact ⟨L2, p2, fin _ _ _ h2⟩
      · exact ⟨L2, p2, fin _ _ _ h2⟩
      · split at h2 <;> try (simp [Tree.sat] at h2; done)
        rename_i hdf
        have hdn := hS3.df
        rw [hdf] at hdn
        exact ⟨dfl_nil hdn, .pan _, τ2, _, _, e1.trans e2, hS3.h, hS3.bl, hx2, h2⟩

theorem evFn_sound {X : Ctx} (hX : CtxOk X) {α : Type} (R : α → Prop) : ∀ (m : Nat), CTok X.P (evFn (α := α) X m) R
  | 0 => by intro w0 σ hp nx w c xs us K _ _ _ h; simp [evFn, Tree.sat] at h
  | m + 1 => by
    intro w0 σ hp nx w c xs us K hh hb hu h
    cases c with
    | yld id => exact round_sound hX (evFn_sound hX R m) hh hb hu h
    | fn f =>
      simp only [evFn] at h
      show (callFunc f us.toArray).run X.P w = .ok (.enter f us.toArray) w ∧ Calls' X.P f us.toArray w (CRes w0 σ K R)
      cases hpx : (assoc X.pures f).bind (fun g => (g.run (xs.map (toRO X.P hp))).map fun r => (g.flat, r)) with
      | some y =>
        obtain ⟨fl, c, x⟩ := y
        simp only [hpx] at h
        cases hg : assoc X.pures f with
        | none => simp [hg] at hpx
        | some g =>
          simp only [hg, Option.bind_some, Option.map_eq_some_iff, Prod.mk.injEq] at hpx
          obtain ⟨r, hr, rfl, rfl⟩ := hpx
          obtain ⟨h1, h2⟩ := hX.pures _ (assoc_mem hg)
          cases c with
          | false => simp [Tree.sat] at h
          | true => exact ⟨h1.run _ _, pure_sound h2 hh hb hu hr (by simpa using h)⟩
      | none =>
      simp only [hpx] at h
      cases hs : assoc X.specs f with
      | some c =>
        simp only [hs, sat_bind] at h
        obtain ⟨h1, h2⟩ := hX.specs _ (assoc_mem hs)
        exact ⟨h1.run _ _, (h2 w0 σ hp nx w xs us _ hh hb hu h).mono fun e w' ⟨y, τ, hp', nx', k1, k2, k3, k4, k5⟩ => ⟨y, τ, hp', nx', k1, k2, k3, k4, k5⟩⟩
      | none =>
        simp only [hs] at h
        cases hf : assoc X.fns f with
        | none => simp [hf, Tree.sat] at h
        | some fn =>
          simp only [hf] at h
          obtain ⟨h1, h2, h3⟩ := hX.fns _ (assoc_mem hf)
          simp only at h1 h2 h3
          cases hbd : fn.body with
          | none => simp [hbd, Tree.sat] at h
          | some c =>
            simp only [hbd] at h
            cases hn : Nat.ble (lenA xs) fn.ntmps with
            | false => simp [hn, Tree.sat] at h
            | true =>
              simp only [hn, cond_true] at h
              simp only [Nat.ble_eq, lenA_eq] at hn
              have hpl : Plain X.P f := ⟨fn, h1, h2, by simp [hbd]⟩
              refine ⟨hpl.run _ _, ?_⟩
              have hlen := hu.length
              have hS : Sat false w0 σ { tm := frameOf xs, n := fn.ntmps, hp := hp, nx := nx, df := [], rd := false } { tmps := us.toArray ++ Array.replicate (fn.ntmps - us.toArray.size) undef, defers := [] } w := by
                refine ⟨hh, fun t => ?_, ?_, .nil, hb, rfl⟩
                · have := frameOf_rep xs us hu (fn.ntmps - us.toArray.size) t
                  have he : (us.toArray ++ Array.replicate (fn.ntmps - us.toArray.size) undef).getD t undef = (us ++ List.replicate (fn.ntmps - us.toArray.size) undef)[t]?.getD undef := by
                    rw [Array.getD_eq_getD_getElem?, ← Array.getElem?_toList]
                    simp
                  rw [he]; exact this
                · simp; omega
              have hw := evC_sound (α := α) hX.mix hX.pures (evFn_sound hX R m) f X.u (assoc2 X.loops f) c (fun d hd g hg => h3 c hbd d hd g hg) σ _ _ w _ hS h
              intro cs
              let b : Frame := { (default : Frame) with fn := f, kind := .normal }
              have henter : Frame.enter X.P f us.toArray .normal = atX b { tmps := us.toArray ++ Array.replicate (fn.ntmps - us.toArray.size) undef, defers := [] } [.code c] := by
                simp [Frame.enter, atX, h1, hbd, b]
                rfl
              rw [henter]
              obtain ⟨e, a', w', ⟨τ, x, s', he, hS', hx, h'⟩, hleft⟩ := left_of_wpX (cs := cs) (b := b) rfl rfl hw (by
                rintro id a' w' ⟨τ, x, s', _, _, hx, h'⟩
                cases x <;> simp only [ExR] at hx
                simp [Tree.sat] at h')
              have hret : ∀ (todo : List Item), Steps X.P (lone (atX b { tmps := us.toArray ++ Array.replicate (fn.ntmps - us.toArray.size) undef, defers := [] } [.code c]) cs w) (lone { atX b a' todo with mode := .returning } cs w') →
                  (evLeave (evFn (α := α) X m) s'.df s'.hp s'.nx fun hp' nx' => match resultsA X.P { s' with hp := hp' } fn.results.toList with | some l => K (.ret (tupA l)) hp' nx' | none => .fail).sat R →
                  ∃ e w' fr, ((match e with | .outgrown => False | _ => True) ∧ CRes w0 σ K R e w') ∧ Comes X.P (lone (atX b { tmps := us.toArray ++ Array.replicate (fn.ntmps - us.toArray.size) undef, defers := [] } [.code c]) cs w) (lone fr cs w') e ∧ fr.fn = f ∧ fr.leaving X.P w' e := by
                intro todo hs1 hk
                obtain ⟨w2, hp2, nx2, s2, r1, r2, r3⟩ := leave_sound (P := X.P) s'.df a'.defers s'.hp s'.nx w' { atX b a' todo with mode := .returning } _ (by simp) rfl hS'.df hS'.h hS'.bl hk cs
                cases hr : resultsA X.P { s' with hp := hp2 } fn.results.toList with
                | none => rw [hr] at r3; simp [Tree.sat] at r3
                | some l =>
                  rw [hr] at r3
                  have hS2 : Sat false w0 τ { s' with hp := hp2, nx := nx2 } a' w2 := ⟨r1, hS'.tm, hS'.n, hS'.df, r2, hS'.rd⟩
                  have hr' : resultsA X.P { s' with hp := hp2, nx := nx2 } fn.results.toList = some l := by
                    rw [← hr]
                    have : ∀ rs : List ResultVar, resultsA X.P { s' with hp := hp2, nx := nx2 } rs = resultsA X.P { s' with hp := hp2 } rs := by
                      intro rs
                      induction rs with
                      | nil => rfl
                      | cons r rs ih => cases r <;> simp only [resultsA, ih]
                    exact this _
                  obtain ⟨v, hv1, hv2⟩ := results_run hS2 hr'
                  exact ⟨.returned v, w2, { atX b a' todo with mode := .returning, defers := [] }, ⟨trivial, .ret (tupA l), τ, hp2, nx2, he, r1, r2, hv2, r3⟩, Steps.trans hs1 s2, rfl, rfl, rfl, rfl, fn, h1, hv1⟩
              cases x <;> cases e <;> simp only [ExR] at hx <;> simp only at h'
              · obtain ⟨todo, hs1⟩ := hleft
                exact hret todo hs1 h'
              · simp [Tree.sat] at h'
              · obtain ⟨todo, hs1⟩ := hleft
                exact hret todo hs1 h'
              · obtain ⟨todo, hs1⟩ := hleft
                obtain ⟨w2, hp2, nx2, s2, r1, r2, r3⟩ := leave_sound (P := X.P) s'.df a'.defers s'.hp s'.nx w' { atX b a' todo with mode := .panicking _ } _ (by simp) rfl hS'.df hS'.h hS'.bl h' cs
                exact ⟨.panicked _, w2, { atX b a' todo with mode := .panicking _, defers := [] }, ⟨trivial, .pan _, τ, hp2, nx2, he, r1, r2, hx, r3⟩, Steps.trans hs1 s2, rfl, rfl, rfl, fn, h1⟩
end V
end Go.Proofs.Ytmmhbianajpdgaa
