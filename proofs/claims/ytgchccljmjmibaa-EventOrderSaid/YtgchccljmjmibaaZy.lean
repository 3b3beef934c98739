/- Loops in which own lists become data at the end of each round, or before the loop. -/
import Derived.Test.YtgchccljmjmibaaZz
namespace Go.Proofs.Ytgchccljmjmibaa
open Go.RowKit
namespace V
/-- from here on the lists in some slots are data -/
def fzT (ts : List Nat) (s : St) : St := { s with tm := fun t => fzA s.hp (ts.flatMap fun t => fzIds (s.tm t)) (s.tm t), hp := fzH s.hp (ts.flatMap fun t => fzIds (s.tm t)) }
theorem loopOk_fz {P : Program} {fn : FuncId} {c : Code} {f : St → Tree (XE × St)} (ts : List Nat) (h : LoopOk P fn c f) : LoopOk P fn c (fun s => f (fzT ts s)) := fun w0 _ s a w R hS hf =>
  wpX_mono (h w0 _ (fzT ts s) a w R (hS.fz _) hf) fun _ _ _ ⟨τ, x, s', h1, h2⟩ => ⟨τ, x, s', (fz_ext hS.h _).trans h1, h2⟩
/-- the end of a round: the lists in some slots become data -/
def stepOutZ (ts : List Nat) (L : Lay) (E : XE → Lay) (e : XE) (s : St) : Tree (L.T ⊕ Left' E) :=
  match e with
  | .normal => stepOut L E .normal (fzT ts s)
  | e => stepOut L E e s
theorem loopOk_ofZ {X : Ctx} (hX : CtxOk X) (m : Nat) (fn : FuncId) (ts : List Nat) (Lt : LoopT) {c : Code} (hL : ∀ d ∈ loopsOf c, ∀ f, Lt (keyOf d) = some f → LoopOk X.P fn d f) (L : Lay) (E : XE → Lay) (hE : ∀ e, L.nx ≤ (E e).nx) (fin : L.T → Tree (Left' E)) (step : L.T → Tree (L.T ⊕ Left' E))
    (hstep : ∀ g (R : L.T ⊕ Left' E → Prop), (step g).sat R → (evC X.P (evFn X m) X.pures fn X.u Lt c (L.of g) (stepOutZ ts L E)).sat R)
    (hfin : ∀ g R, L.WF g → (fin g).sat R → ∃ n, Rnds L E step R n g) : LoopOk X.P fn c (loopSum L E fin) := by
  intro w0 σ s a w R hS h
  simp only [loopSum] at h
  cases hc : Nat.ble s.nx L.nx with
  | false => simp [hc, Tree.sat] at h
  | true =>
    rw [hc, cond_true] at h
    have hnx := Nat.le_of_ble_eq_true hc
    cases he : L.to s with
    | none => simp [he, Tree.sat] at h
    | some g =>
      simp only [he, sat_map] at h
      have hfr : ∀ i, L.nx ≤ i → Free σ i := fun i hi => hS.h.free (by omega)
      have key : ∀ (n : Nat) (g : L.T) (σ' : Env) (a : Go.Act) (w : World), Rnds L E step (fun x => R (x.1, (E x.1).of x.2)) n g → L.WF g → Ext σ σ' → Sat false w0 σ' (L.of g) a w →
          roundsX X.P false fn c (XRes false w0 σ fun x s' => R (x, s')) n a w := by
        intro n
        induction n with
        | zero => intro g _ _ _ h; exact h.elim
        | succ n ih =>
          intro g σ' a w hr hwf hext hSg
          have hs := hr hwf
          have hs := hstep g _ hs
          have hw := evC_sound (α := L.T ⊕ Left' E) hX.mix hX.pures (evFn_sound hX _ m) fn X.u Lt c hL σ' _ a w _ hSg hs
          refine wpX_mono hw ?_
          rintro e a' w' ⟨τ, x, s', hext', hS', hx, hk⟩
          cases x with
          | normal =>
            simp only [stepOutZ, stepOut] at hk
            cases e <;> simp only [ExR] at hx
            split at hk <;> try (simp [Tree.sat] at hk; done)
            rename_i g' hg'
            obtain ⟨k1, rs, k2⟩ := (hS'.fz _).forget L hg'
            exact ih g' _ a' w' hk k1 (cutE_ext ((hext.trans hext').trans (fz_ext hS'.h _)) hfr) k2
          | panic v =>
            simp only [stepOutZ, stepOut] at hk
            cases hcon : conA v with
            | false => rw [hcon] at hk; exact hk.elim
            | true =>
              rw [hcon, cond_true] at hk
              split at hk <;> try (simp [Tree.sat] at hk; done)
              rename_i g' hg'
              obtain ⟨k1, rs, k2⟩ := hS'.forget _ hg'
              cases e <;> simp only [ExR] at hx
              obtain ⟨u, hu, hch⟩ := hx
              exact ⟨_, .panic v, _, cutE_ext (hext.trans hext') (fun j hj => hfr j (Nat.le_trans (hE _) hj)), k2, ⟨u, conA_rep hcon hu, hch⟩, hk k1⟩
          | exit i =>
            simp only [stepOutZ, stepOut] at hk
            cases e <;> simp only [ExR] at hx
            subst hx
            split at hk <;> try (simp [Tree.sat] at hk; done)
            rename_i g' hg'
            obtain ⟨k1, rs, k2⟩ := hS'.forget _ hg'
            exact ⟨_, .exit i, _, cutE_ext (hext.trans hext') (fun j hj => hfr j (Nat.le_trans (hE _) hj)), k2, rfl, hk k1⟩
          | ret =>
            simp only [stepOutZ, stepOut] at hk
            cases e <;> simp only [ExR] at hx
            split at hk <;> try (simp [Tree.sat] at hk; done)
            rename_i g' hg'
            obtain ⟨k1, rs, k2⟩ := hS'.forget _ hg'
            exact ⟨_, .ret, _, cutE_ext (hext.trans hext') (fun j hj => hfr j (Nat.le_trans (hE _) hj)), k2, trivial, hk k1⟩
      obtain ⟨hwf, rs, hF⟩ := hS.forget L he
      obtain ⟨n, hn⟩ := hfin g _ hwf h
      exact wpX_loop_rounds n (key n g _ a w hn hwf (cutE_ext (Ext.refl σ) hfr) hF)

theorem loopOk_xW {X : Ctx} (hX : CtxOk X) (m : Nat) (fn : FuncId) (ts : List Nat) (Lt : LoopT) {c : Code} (hL : ∀ d ∈ loopsOf c, ∀ f, Lt (keyOf d) = some f → LoopOk X.P fn d f) (L : Lay) (E : XE → Lay) (hE : ∀ e, L.nx ≤ (E e).nx) (es : List XE) (st : L.T → Tree (L.T ⊕ Left' E)) (fuel : L.T → Nat)
    (hstep : ∀ g (R : L.T ⊕ Left' E → Prop), (st g).sat R → (evC X.P (evFn X m) X.pures fn X.u Lt c (L.of g) (stepOutZ ts L E)).sat R) : LoopOk X.P fn c (loopSum L E (finX es st fuel)) := by
  refine loopOk_ofZ hX m fn ts Lt hL L E hE (finX es st fuel) st hstep ?_
  intro g R _ hf
  obtain ⟨e, he, hr⟩ := outE_sat hf
  exact ⟨_, rnds_iter _ g e he hr⟩
theorem loopOk_xZ {X : Ctx} (hX : CtxOk X) (m : Nat) (fn : FuncId) (ts : List Nat) (Lt : LoopT) {c : Code} (hL : ∀ d ∈ loopsOf c, ∀ f, Lt (keyOf d) = some f → LoopOk X.P fn d f) (L : Lay) (E : XE → Lay) (hE : ∀ e, L.nx ≤ (E e).nx) (es : List XE) (st : L.T → Tree (L.T ⊕ Left' E)) (fuel : L.T → Nat)
    (hstep : ∀ g, evC X.P (evFn X m) X.pures fn X.u Lt c (L.of g) (stepOutZ ts L E) = st g) : LoopOk X.P fn c (loopSum L E (finX es st fuel)) := by
  refine loopOk_ofZ hX m fn ts Lt hL L E hE (finX es st fuel) st (fun g R h => by rw [hstep g]; exact h) ?_
  intro g R _ hf
  obtain ⟨e, he, hr⟩ := outE_sat hf
  exact ⟨_, rnds_iter _ g e he hr⟩
end V
end Go.Proofs.Ytgchccljmjmibaa
