/- That the symbolic evaluator of the text Va is sound, last part: code, loops over functions, functions. -/
import Derived.Test.YtmmhbianajpdgaaVj
import Derived.Test.YtmmhbianajpdgaaVx
namespace Go.Proofs.Ytmmhbianajpdgaa
open Go.RowKit
namespace V

theorem sat_bind {β γ : Type} {R : γ → Prop} (t : Tree β) (f : β → Tree γ) : (t.bind f).sat R ↔ t.sat (fun x => (f x).sat R) := by
  induction t with
  | leaf a => rfl
  | need p t ih => simp only [Tree.bind, Tree.sat, ih]
  | br c t e ih1 ih2 => cases c <;> simp [Tree.bind, Tree.sat, ih1, ih2]
  | fail => rfl

theorem bif_false {α : Type} {R : α → Prop} {b : Bool} {t : Tree α} (hb : b = false) (h : (bif b then .fail else t).sat R) : t.sat R := by subst hb; exact h
def XRes (rd : Bool) (w0 : World) (σ : Env) (R' : XE → St → Prop) (e : Exit) (a' : Go.Act) (w' : World) : Prop :=
  ∃ τ x s', Ext σ τ ∧ Sat rd w0 τ s' a' w' ∧ ExR τ x e ∧ R' x s'
/-- what is owed for the summary of a loop -/
def LoopOk (P : Program) (fn : FuncId) (c : Code) (f : St → Tree (XE × St)) : Prop :=
  ∀ (w0 : World) (σ : Env) (s : St) (a : Go.Act) (w : World) (R : XE × St → Prop), Sat false w0 σ s a w → (f s).sat R → Code.wpX P false fn (.loop c) (XRes false w0 σ fun x s' => R (x, s')) a w
def loopsOf : Code → List Code
  | .seq a b => loopsOf a ++ loopsOf b
  | .cond _ a b => loopsOf a ++ loopsOf b
  | .block _ c => loopsOf c
  | .loop c => c :: loopsOf c
  | _ => []

section
variable {P : Program} {α : Type} {cT : CallT α} {R : α → Prop}

/-- the world is turned where nothing that lives lies -/
theorem HRel.other {B : Nat} {σ : Env} {hp : Heap} {nx : Nat} {w w' : World} (h : HRel B σ hp nx w) (hsz : w.heap.size ≤ w'.heap.size)
    (keep : ∀ j n, hp j ≠ none → σ j = some n → w'.heap[n]? = w.heap[n]?) (kmem : ∀ n oo v, σ.mem n oo = some v → w'.heap[n]? = w.heap[n]?) : HRel B σ hp nx w' :=
  ⟨fun j o hj => (h.ob j o hj).keep (Ext.refl σ) rfl fun n hn => keep j n (by rw [hj]; simp) hn, h.inj, h.fresh, fun i n hn => Nat.lt_of_lt_of_le (h.bound i n hn) hsz, h.mem.keep kmem, h.sep, h.low⟩
theorem HRel.gone {B : Nat} {σ : Env} {hp : Heap} {nx : Nat} {w : World} (h : HRel B σ hp nx w) {id n : Nat} (hid : hp id ≠ none) (hn : σ id = some n) (o : Obj) : HRel B σ (upd hp id none) nx (w.putObj n o) := by
  refine (h.less (less_none hp id)).other (by simp) ?_ ?_
  · intro j k hj hk
    have hne : j ≠ id := fun e => by subst e; rw [upd_same] at hj; exact hj rfl
    rw [upd_other _ _ hne] at hj
    exact World.putObj_heap_other fun e => hne (h.inj j id n hj hid (e ▸ hk) hn)
  · intro k oo v hv
    refine World.putObj_heap_other fun e => ?_
    subst e
    rw [h.sep id k hid hn oo] at hv; cases hv
theorem HRel.turnObj {B : Nat} {σ : Env} {hp : Heap} {nx : Nat} {w : World} (h : HRel B σ hp nx w) {id n : Nat} {o : Ob} (hid : hp id ≠ none) (hn : σ id = some n) (obj : Obj) (hob : ObRel B σ (w.putObj n obj) id o) : HRel B σ (upd hp id (some o)) nx (w.putObj n obj) := by
  have hlt : id < nx := by
    rcases Nat.lt_or_ge id nx with x | x
    · exact x
    · exact absurd (h.fresh id x).2.2 hid
  refine h.putOb (Ext.refl σ) rfl (fun _ _ h => h) hlt (Nat.le_refl _) (fun _ _ => rfl) (fun _ _ => rfl) (by simp) ?_ ?_ hob ?_
  · intro j k hj hpj hk
    exact World.putObj_heap_other fun e => hj (h.inj j id n hpj hid (e ▸ hk) hn)
  · intro k oo v hv
    refine World.putObj_heap_other fun e => ?_
    subst e
    rw [h.sep id k hid hn oo] at hv; cases hv
  · intro k hk
    rw [hn] at hk; cases hk
    refine ⟨by simpa using h.bound id n hn, fun j hj hpj hjn => hj (h.inj j id n hpj hid hjn hn), h.sep id n hid hn⟩
theorem below_putObj {B : Nat} {w0 w : World} (h : Below B w0 w) {n : Nat} (hn : B ≤ n) (o : Obj) : Below B w0 (w.putObj n o) :=
  h.trans ⟨rfl, rfl, rfl, by simp, fun k hk => World.putObj_heap_other (by omega)⟩

theorem range_sound (hc : CTok P cT R) {w0 : World} {σ : Env} {s : St} {a : Go.Act} {w : World} {fn : FuncId} {f : Operand} {params : Array Nat} {assign body : Code} {K : XE → St → Tree α} (hS : Sat false w0 σ s a w)
    {pu : List (Nat × PureT)} {u : Nat} {L : LoopT} (h : (evC P cT pu fn u L (.rangeFunc f params assign body) s K).sat R) :
    Code.wpX P false fn (.rangeFunc f params assign body) (XRes false w0 σ fun x s' => (K x s').sat R) a w := by
  simp only [evC] at h
  replace h := bif_false hS.rd h
  have hf := hS.eval f
  cases hfv : s.eval f with
  | fn F first cap =>
    cases F with
    | func gf =>
      rw [hfv] at h hf
      simp only [Rep] at hf
      obtain ⟨xf, xc, r1, r2, r3⟩ := hf
      simp only at h
      obtain ⟨τ1, e1, t1, _, H1⟩ := hS.h.new (obj := .deferred (some [])) (o := .dfr) (sv := none) (fun τ _ _ k1 _ => ⟨w.heap.size, k1, by show (w.heap.push _)[w.heap.size]? = _; simp, hS.bl.size⟩)
      obtain ⟨τ2, e2, t2, _, H2⟩ := H1.new (obj := .loop { state := .ready, pending := none, fn := fn, tmps := a.tmps, params := params, assign := assign, body := body, defers := w.heap.size }) (o := .lp ⟨s.tm, s.n, fn, params.toList, assign, body, .ready, none, s.nx⟩) (sv := none)
        (fun τ e _ k1 _ => ⟨(w.alloc (.deferred (some []))).heap.size, { state := .ready, pending := none, fn := fn, tmps := a.tmps, params := params, assign := assign, body := body, defers := w.heap.size }, k1, by show ((w.alloc (.deferred (some []))).heap.push _)[(w.alloc (.deferred (some []))).heap.size]? = _; rw [Array.getElem?_push_size], ⟨fun t => (hS.tm t).mono (e1.trans e), hS.n, rfl, rfl, rfl, rfl, rfl, rfl⟩, by simp; have := hS.bl.size; omega⟩)
      have hsz : (w.alloc (.deferred (some []))).heap.size = w.heap.size + 1 := by simp
      rw [hsz] at t2
      have e12 := e1.trans e2
      have hargs : RepL τ2 (first ++ [.yld (s.nx + 1)] ++ cap) (xf ++ [.func (.yield (w.heap.size + 1)) #[] #[]] ++ xc) :=
        ((r1.mono e12).append (by simp only [RepL, Rep]; exact ⟨_, [], rfl, ⟨_, t2, rfl⟩, rfl⟩)).append (r2.mono e12)
      have hB2 : Below w0.heap.size w0 (loopW w fn a.tmps params assign body) := (hS.bl.alloc hS.bl.size _).alloc (by simp; have := hS.bl.size; omega) _
      obtain ⟨c1, c2⟩ := hc w0 τ2 _ (s.nx + 2) (loopW w fn a.tmps params assign body) (.fn gf) _ _ _ H2 hB2 hargs h
      have hua : (xf ++ [Value.func (.yield (w.heap.size + 1)) #[] #[]] ++ xc).toArray = xf.toArray ++ #[Value.func (.yield (w.heap.size + 1)) #[] #[]] ++ xc.toArray := by simp
      rw [hua] at c1 c2
      refine wpX_rangeFunc r3 c1 (c2.mono ?_)
      rintro e w3 ⟨y, τ, hp', nx', e3, H3, B3, hout, hk⟩
      have e0 := e12.trans e3
      cases e with
      | outgrown => cases y <;> exact hout.elim
      | returned v => cases y with
        | pan x => exact hout.elim
        | ret x =>
          simp only at hk
          split at hk <;> try (simp [Tree.sat] at hk; done)
          rename_i r hr
          obtain ⟨n, L, l1, l2, l3, l4⟩ := H3.ob (s.nx + 1) _ hr
          have hn : n = w.heap.size + 1 := Option.some.inj (l1.symm.trans (e3.1 _ _ t2))
          subst hn
          have hnb : r.st ≠ .busy := by intro e; rw [e] at hk; simp [Tree.sat] at hk
          replace hk : (match r.pend with
              | none => K .normal { s with hp := upd hp' (s.nx + 1) none, nx := nx', df := .mark s.nx :: s.df }
              | some c => match jumpOf c with
                | some e => K e { s with hp := upd hp' (s.nx + 1) none, nx := nx', df := .mark s.nx :: s.df }
                | none => .fail : Tree α).sat R := by
            cases hst : r.st <;> rw [hst] at hk hnb <;> first | exact hk | exact absurd rfl hnb
          rw [← l3.st] at hnb
          rw [← l3.pend] at hk
          have H4 := H3.gone (by rw [hr]; simp) l1 (.loop { L with state := .exhausted })
          have hS' : Sat false w0 τ { s with hp := upd hp' (s.nx + 1) none, nx := nx', df := .mark s.nx :: s.df } { a with defers := { target := .collected w.heap.size, args := #[] } :: a.defers } (w3.putObj (w.heap.size + 1) (.loop { L with state := .exhausted })) :=
            ⟨H4, fun t => (hS.tm t).mono e0, hS.n, .cons ⟨w.heap.size, (e2.trans e3).1 _ _ t1, rfl⟩ (hS.df.mono e0), below_putObj B3 (by have := hS.bl.size; omega) _, hS.rd⟩
          generalize hW : w3.putObj (w.heap.size + 1) (.loop { L with state := .exhausted }) = W at hS'
          refine ⟨L, W, l2, hnb, hW.symm, ?_⟩
          clear hW
          split
          · rename_i hp
            rw [hp] at hk; exact ⟨τ, .normal, _, e0, hS', trivial, hk⟩
          · rename_i hp
            rw [hp] at hk; exact ⟨τ, .ret, _, e0, hS', trivial, hk⟩
          · rename_i id hp
            rw [hp] at hk; exact ⟨τ, .exit id, _, e0, hS', rfl, hk⟩
          · rename_i h1 h2 h3
            cases hp : L.pending with
            | none => exact h1 hp
            | some c =>
              rw [hp] at hk
              cases c with
              | ret => exact h2 hp
              | exit id => exact h3 id hp
              | _ => simp [jumpOf, Tree.sat] at hk
      | panicked ch => cases y with
        | ret x => exact hout.elim
        | pan x =>
          simp only at hk
          have hS' : Sat false w0 τ { s with hp := hp', nx := nx', df := .mark s.nx :: s.df } { a with defers := { target := .collected w.heap.size, args := #[] } :: a.defers } w3 :=
            ⟨H3, fun t => (hS.tm t).mono e0, hS.n, .cons ⟨w.heap.size, (e2.trans e3).1 _ _ t1, rfl⟩ (hS.df.mono e0), B3, hS.rd⟩
          exact ⟨τ, .panic x, _, e0, hS', hout, hk⟩
    | _ => rw [hfv] at h; simp [Tree.sat] at h
  | _ => rw [hfv] at h; simp [Tree.sat] at h

theorem evC_sound (hmix : P.follows .mixedOrders = true) {pu : List (Nat × PureT)} (hpu : PuOk P pu) (hc : CTok P cT R) {rd : Bool} {w0 : World} (fn : FuncId) (u : Nat) (L : LoopT) : ∀ (c : Code) (_ : ∀ d ∈ loopsOf c, ∀ f, L (keyOf d) = some f → LoopOk P fn d f) (σ : Env) (s : St) (a : Go.Act) (w : World) (K : XE → St → Tree α),
    Sat rd w0 σ s a w → (evC P cT pu fn u L c s K).sat R → Code.wpX P rd fn c (XRes rd w0 σ fun x s' => (K x s').sat R) a w
  | .skip, _, σ, s, a, w, K, hS, h => wpX_skip ⟨σ, .normal, s, Ext.refl _, hS, trivial, by simpa [evC] using h⟩
  | .region id ops draw, _, σ, s, a, w, K, hS, h => by
    have key : ∀ t : Tree α, (bif s.rd && !(noDefer ops) then .fail else t).sat R → t.sat R ∧ (rd = true → noDefer ops = true) := by
      intro t ht
      rw [hS.rd] at ht
      cases rd with
      | false => exact ⟨by simpa using ht, by simp⟩
      | true =>
        cases hn : noDefer ops with
        | true => rw [hn] at ht; exact ⟨by simpa using ht, fun _ => rfl⟩
        | false => rw [hn] at ht; simp [Tree.sat] at ht
    cases draw with
    | true =>
      simp only [evC] at h
      obtain ⟨h1, h2⟩ := key _ h
      exact draw_sound (K := K) hc hmix hpu hS h2 h1
    | false =>
      simp only [evC] at h
      obtain ⟨h1, h2⟩ := key _ h
      exact wpX_region h2 (evOps_sound hc _ σ s a w hS h1 (fun τ s' a' w' e ex he hS' hx h' => ⟨τ, e, s', he, hS', hx, h'⟩))
  | .seq x y, hL, σ, s, a, w, K, hS, h => by
    simp only [evC] at h
    have h1 := evC_sound hmix hpu hc fn u L x (fun d hd => hL d (by simp [loopsOf, hd])) σ s a w _ hS h
    refine wpX_seq (wpX_mono h1 ?_)
    rintro e a' w' ⟨τ, x', s', he, hS', hx, h'⟩
    cases x' <;> cases e <;> simp only [ExR] at hx <;> simp only at h'
    · have h2 := evC_sound hmix hpu hc fn u L y (fun d hd => hL d (by simp [loopsOf, hd])) τ s' a' w' K hS' h'
      exact wpX_mono h2 fun e a2 w2 ⟨τ2, x2, s2, e2, hS2, hx2, h2⟩ => ⟨τ2, x2, s2, he.trans e2, hS2, hx2, h2⟩
    · exact ⟨τ, .exit _, s', he, hS', hx, h'⟩
    · exact ⟨τ, .ret, s', he, hS', trivial, h'⟩
    · exact ⟨τ, .panic _, s', he, hS', hx, h'⟩
  | .cond o x y, hL, σ, s, a, w, K, hS, h => by
    simp only [evC] at h
    have hr := hS.eval o
    cases ho : s.eval o with
    | bool b =>
      rw [ho] at hr h
      simp only [Rep] at hr
      have hl : Sat rd w0 σ (learn o b s) a w := by
        cases o with
        | tmp t =>
          simp only [learn]
          cases Nat.ble s.n t with
          | true => exact hS
          | false => exact hS.learn (by simp only [Go.Act.eval] at hr; rw [hr]; simp only [Rep])
        | _ => exact hS
      cases b with
      | true => exact wpX_cond_true hr (evC_sound hmix hpu hc fn u L x (fun d hd => hL d (by simp [loopsOf, hd])) σ _ a w K hl (by simpa using h))
      | false => exact wpX_cond_false hr (evC_sound hmix hpu hc fn u L y (fun d hd => hL d (by simp [loopsOf, hd])) σ _ a w K hl (by simpa using h))
    | _ => rw [ho] at h; simp [Tree.sat] at h
  | .block id c, hL, σ, s, a, w, K, hS, h => by
    simp only [evC] at h
    have h1 := evC_sound hmix hpu hc fn u L c (fun d hd => hL d (by simpa [loopsOf] using hd)) σ s a w _ hS h
    refine wpX_block (wpX_mono h1 ?_)
    rintro e a' w' ⟨τ, x', s', he, hS', hx, h'⟩
    cases x' <;> cases e <;> simp only [ExR] at hx <;> simp only at h'
    · exact ⟨τ, .normal, s', he, hS', trivial, h'⟩
    · rename_i i j
      subst hx
      simp only [Exit.inBlock]
      by_cases hid : i = id
      · subst hid
        rw [if_pos rfl]
        exact ⟨τ, .normal, s', he, hS', trivial, by simpa using h'⟩
      · rw [if_neg hid]
        exact ⟨τ, .exit i, s', he, hS', rfl, by simpa [beq_ne hid] using h'⟩
    · exact ⟨τ, .ret, s', he, hS', trivial, h'⟩
    · exact ⟨τ, .panic _, s', he, hS', hx, h'⟩
  | .loop c, hL, σ, s, a, w, K, hS, h => by
    simp only [evC] at h
    cases hl : L (keyOf c) with
    | some f =>
      simp only [hl] at h
      cases hrd : rd with
      | true => rw [hS.rd, hrd] at h; simp [Tree.sat] at h
      | false =>
        subst hrd
        rw [hS.rd, cond_false, sat_bind] at h
        exact hL c (by simp [loopsOf]) f hl w0 σ s a w _ hS h
    | none =>
      simp only [hl] at h
      have key : ∀ (n : Nat) (σ' : Env) (s : St) (a : Go.Act) (w : World), Ext σ σ' → Sat rd w0 σ' s a w → (unroll n (fun s K => evC P cT pu fn u L c s K) s K).sat R →
          roundsX P rd fn c (XRes rd w0 σ fun x s' => (K x s').sat R) n a w := by
        intro n
        induction n with
        | zero => intro σ' s a w _ _ h; simp [unroll, Tree.sat] at h
        | succ n ih =>
          intro σ' s a w e0 hS h
          simp only [unroll] at h
          have h1 := evC_sound hmix hpu hc fn u L c (fun d hd => hL d (by simp [loopsOf, hd])) σ' s a w _ hS h
          refine wpX_mono h1 ?_
          rintro e a' w' ⟨τ, x', s', he, hS', hx, h'⟩
          cases x' <;> cases e <;> simp only [ExR] at hx <;> simp only at h'
          · exact ih τ s' a' w' (e0.trans he) hS' h'
          · exact ⟨τ, .exit _, s', e0.trans he, hS', hx, h'⟩
          · exact ⟨τ, .ret, s', e0.trans he, hS', trivial, h'⟩
          · exact ⟨τ, .panic _, s', e0.trans he, hS', hx, h'⟩
      exact wpX_loop_rounds u (key u σ s a w (Ext.refl _) hS h)
  | .exit id, _, σ, s, a, w, K, hS, h => wpX_exit ⟨σ, .exit id, s, Ext.refl _, hS, rfl, by simpa [evC] using h⟩
  | .ret, _, σ, s, a, w, K, hS, h => wpX_ret ⟨σ, .ret, s, Ext.refl _, hS, trivial, by simpa [evC] using h⟩
  | .rangeFunc f ps x y, _, σ, s, a, w, K, hS, h => by
    cases hrd : rd with
    | true => simp only [evC] at h; rw [hS.rd, hrd] at h; simp [Tree.sat] at h
    | false => subst hrd; exact range_sound hc hS h
  | .scope _, _, _, _, _, _, _, _, h => by simp [evC, Tree.sat] at h
  | .label _, _, _, _, _, _, _, _, h => by simp [evC, Tree.sat] at h
  | .goto _, _, _, _, _, _, _, _, h => by simp [evC, Tree.sat] at h
  | .refuse _, _, _, _, _, _, _, _, h => by simp [evC, Tree.sat] at h
end
end V
end Go.Proofs.Ytmmhbianajpdgaa
