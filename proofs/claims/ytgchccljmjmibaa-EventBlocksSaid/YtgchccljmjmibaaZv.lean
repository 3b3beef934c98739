/- Loops whose own lists become data at the end of each round and of the loop. -/
import Derived.Test.YtgchccljmjmibaaGag
namespace Go.Proofs.Ytgchccljmjmibaa
open Go.RowKit
namespace V
/-- the end of a round, or of the loop: the lists in some slots become data -/
def stepOutV (ts us : List Nat) (L : Lay) (E : XE → Lay) (e : XE) (s : St) : Tree (L.T ⊕ Left' E) :=
  match e with
  | .panic x => stepOut L E (.panic x) s
  | .normal => stepOut L E .normal (fzT ts s)
  | e => stepOut L E e (fzT us s)
theorem loopOk_ofV {X : Ctx} (hX : CtxOk X) (m : Nat) (fn : FuncId) (ts us : List Nat) (Lt : LoopT) {c : Code} (hL : ∀ d ∈ loopsOf c, ∀ f, Lt (keyOf d) = some f → LoopOk X.P fn d f) (L : Lay) (E : XE → Lay) (hE : ∀ e, L.nx ≤ (E e).nx) (fin : L.T → Tree (Left' E)) (step : L.T → Tree (L.T ⊕ Left' E))
    (hstep : ∀ g (R : L.T ⊕ Left' E → Prop), (step g).sat R → (evC X.P (evFn X m) X.pures fn X.u Lt c (L.of g) (stepOutV ts us L E)).sat R)
    (hfin : ∀ g R, L.WF g → (fin g).sat R → ∃ n, Rnds L E step R n g) : LoopOk X.P fn c (loopSum L E fin) := by
  intro w0 σ s a w R hS h
  simp only [loopSum] at h
  cases hc : Nat.ble s.nx L.nx with
  | false => simp [hc, Tree.sat] at h
  | true =>
    rw [hc, cond_true] at h
    have hnx := Nat.le_of_ble_eq_true hc
    cases he : L.to s with
    | none => simp [he, Tree.sat] at h
    | some g =>
      simp only [he, sat_map] at h
      have hfr : ∀ i, L.nx ≤ i → Free σ i := fun i hi => hS.h.free (by omega)
      have key : ∀ (n : Nat) (g : L.T) (σ' : Env) (a : Go.Act) (w : World), Rnds L E step (fun x => R (x.1, (E x.1).of x.2)) n g → L.WF g → Ext σ σ' → Sat false w0 σ' (L.of g) a w →
          roundsX X.P false fn c (XRes false w0 σ fun x s' => R (x, s')) n a w := by
        intro n
        induction n with
        | zero => intro g _ _ _ h; exact h.elim
        | succ n ih =>
          intro g σ' a w hr hwf hext hSg
          have hs := hr hwf
          have hs := hstep g _ hs
          have hw := evC_sound (α := L.T ⊕ Left' E) hX.mix hX.pures (evFn_sound hX _ m) fn X.u Lt c hL σ' _ a w _ hSg hs
          refine wpX_mono hw ?_
          rintro e a' w' ⟨τ, x, s', hext', hS', hx, hk⟩
          cases x with
          | normal =>
            simp only [stepOutV, stepOut] at hk
            cases e <;> simp only [ExR] at hx
            split at hk <;> try (simp [Tree.sat] at hk; done)
            rename_i g' hg'
            obtain ⟨k1, rs, k2⟩ := (hS'.fz _).forget L hg'
            exact ih g' _ a' w' hk k1 (cutE_ext ((hext.trans hext').trans (fz_ext hS'.h _)) hfr) k2
          | panic v =>
            simp only [stepOutV, stepOut] at hk
            cases hcon : conA v with
            | false => rw [hcon] at hk; exact hk.elim
            | true =>
              rw [hcon, cond_true] at hk
              split at hk <;> try (simp [Tree.sat] at hk; done)
              rename_i g' hg'
              obtain ⟨k1, rs, k2⟩ := hS'.forget _ hg'
              cases e <;> simp only [ExR] at hx
              obtain ⟨u, hu, hch⟩ := hx
              exact ⟨_, .panic v, _, cutE_ext (hext.trans hext') (fun j hj => hfr j (Nat.le_trans (hE _) hj)), k2, ⟨u, conA_rep hcon hu, hch⟩, hk k1⟩
          | exit i =>
            simp only [stepOutV, stepOut] at hk
            cases e <;> simp only [ExR] at hx
            subst hx
            split at hk <;> try (simp [Tree.sat] at hk; done)
            rename_i g' hg'
            obtain ⟨k1, rs, k2⟩ := (hS'.fz _).forget _ hg'
            exact ⟨_, .exit i, _, cutE_ext ((hext.trans hext').trans (fz_ext hS'.h _)) (fun j hj => hfr j (Nat.le_trans (hE _) hj)), k2, rfl, hk k1⟩
          | ret =>
            simp only [stepOutV, stepOut] at hk
            cases e <;> simp only [ExR] at hx
            split at hk <;> try (simp [Tree.sat] at hk; done)
            rename_i g' hg'
            obtain ⟨k1, rs, k2⟩ := (hS'.fz _).forget _ hg'
            exact ⟨_, .ret, _, cutE_ext ((hext.trans hext').trans (fz_ext hS'.h _)) (fun j hj => hfr j (Nat.le_trans (hE _) hj)), k2, trivial, hk k1⟩
      obtain ⟨hwf, rs, hF⟩ := hS.forget L he
      obtain ⟨n, hn⟩ := hfin g _ hwf h
      exact wpX_loop_rounds n (key n g _ a w hn hwf (cutE_ext (Ext.refl σ) hfr) hF)

theorem loopOk_xV {X : Ctx} (hX : CtxOk X) (m : Nat) (fn : FuncId) (ts us : List Nat) (Lt : LoopT) {c : Code} (hL : ∀ d ∈ loopsOf c, ∀ f, Lt (keyOf d) = some f → LoopOk X.P fn d f) (L : Lay) (E : XE → Lay) (hE : ∀ e, L.nx ≤ (E e).nx) (es : List XE) (st : L.T → Tree (L.T ⊕ Left' E)) (fuel : L.T → Nat)
    (hstep : ∀ g, evC X.P (evFn X m) X.pures fn X.u Lt c (L.of g) (stepOutV ts us L E) = st g) : LoopOk X.P fn c (loopSum L E (finX es st fuel)) := by
  refine loopOk_ofV hX m fn ts us Lt hL L E hE (finX es st fuel) st (fun g R h => by rw [hstep g]; exact h) ?_
  intro g R _ hf
  obtain ⟨e, he, hr⟩ := outE_sat hf
  exact ⟨_, rnds_iter _ g e he hr⟩
end V
end Go.Proofs.Ytgchccljmjmibaa
