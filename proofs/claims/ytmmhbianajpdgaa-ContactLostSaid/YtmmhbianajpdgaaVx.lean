/- The walk of code in any frame, second part: a loop over a function, its rounds, and a function that leaves. Plain rules over the machine's steps; no program in sight. -/
import Derived.Test.YtmmhbianajpdgaaVw
import Derived.RangeFuncLeaves
import Derived.RangeFuncRecord
namespace Go.Proofs.Ytmmhbianajpdgaa
open Go.RowKit
namespace V

section
variable {P : Program} {fn : FuncId} {Q : Exit → Go.Act → World → Prop} {a : Go.Act} {w : World}

/-- the world in which a loop over a function begins -/
def loopW (w : World) (fn : FuncId) (tmps : Array Value) (ps : Array Tmp) (assign body : Code) : World :=
  (w.alloc (.deferred (some []))).alloc (.loop { state := .ready, pending := none, fn, tmps, params := ps, assign, body, defers := w.heap.size })
theorem wpX_rangeFunc {g : Operand} {ps : Array Tmp} {assign body : Code} {gf : FuncId} {first cap : Array Value} (hg : a.eval g = .func (.func gf) first cap)
    (hc : (callFunc gf (first ++ #[.func (.yield (w.heap.size + 1)) #[] #[]] ++ cap)).run P (loopW w fn a.tmps ps assign body) = .ok (.enter gf (first ++ #[.func (.yield (w.heap.size + 1)) #[] #[]] ++ cap)) (loopW w fn a.tmps ps assign body))
    (h : Calls' P gf (first ++ #[.func (.yield (w.heap.size + 1)) #[] #[]] ++ cap) (loopW w fn a.tmps ps assign body) fun e w3 => match e with
      | .returned _ => ∃ L W, w3.heap[w.heap.size + 1]? = some (.loop L) ∧ L.state ≠ .busy ∧ W = w3.putObj (w.heap.size + 1) (.loop { L with state := .exhausted }) ∧ match L.pending with
        | none => Q .normal { a with defers := { target := .collected w.heap.size, args := #[] } :: a.defers } W
        | some .ret => Q .ret { a with defers := { target := .collected w.heap.size, args := #[] } :: a.defers } W
        | some (.exit id) => Q (.exit id) { a with defers := { target := .collected w.heap.size, args := #[] } :: a.defers } W
        | _ => False
      | .panicked ch => Q (.panic ch) { a with defers := { target := .collected w.heap.size, args := #[] } :: a.defers } w3
      | .outgrown => False) :
    Code.wpX P false fn (.rangeFunc g ps assign body) Q a w := by
  intro b k cs hr
  have hro := hr.1 rfl
  have hfn := hr.2
  have s1 := stepR_rangeFunc (P := P) (b := b) (a := a) (k := k) (cs := cs) (w := w) (g := g) (ps := ps) (assign := assign) (body := body) (l := w.heap.size + 1) (mark := [{ target := .collected w.heap.size, args := #[] }])
    (w₁ := loopW w fn a.tmps ps assign body) (w₁' := loopW w fn a.tmps ps assign body) (w₂ := loopW w fn a.tmps ps assign body) (d := { target := .fn (.func gf) cap, args := first ++ #[.func (.yield (w.heap.size + 1)) #[] #[]] }) (f := gf) (args := first ++ #[.func (.yield (w.heap.size + 1)) #[] #[]] ++ cap)
    (by rw [hro, hfn]; exact run_enterLoop_outer _ _ _ _ _) (by
      have hy : a.eval (.const (.func (.yield (w.heap.size + 1)) #[] #[])) = .func (.yield (w.heap.size + 1)) #[] #[] := rfl
      simp only [resolve, rangeCall, hg, Deferred.ofValue, List.map_toArray, List.map_cons, List.map_nil, hy]; rfl) (by simp only [invoke]; exact hc)
  obtain ⟨e, w3, fr, ⟨hne, hR⟩, hsteps, _, hleave⟩ := h (b.atR { a with defers := [{ target := .collected w.heap.size, args := #[] }] ++ a.defers } (.inRangeFunc (w.heap.size + 1) :: k) :: cs)
  cases e with
  | returned v =>
    obtain ⟨L, W, hL, hst, hW, hq⟩ := hR
    have s2 := step_leave_returned (cs := cs) (c := b.atR { a with defers := [{ target := .collected w.heap.size, args := #[] }] ++ a.defers } (.inRangeFunc (w.heap.size + 1) :: k)) hleave
    rw [finish_atR_inRangeFunc] at s2
    have s3 := stepR_endRangeFunc (P := P) (b := b) (a := { a with defers := [{ target := .collected w.heap.size, args := #[] }] ++ a.defers }) (k := k) (cs := cs) (run_endLoop (P := P) hL hst)
    have s4 := Steps.head s1 (Steps.trans hsteps (.head s2 (.one s3)))
    rw [← hW] at s4
    cases hp : L.pending with
    | none =>
      rw [hp] at hq s4
      exact ⟨.normal, _, _, hq, s4⟩
    | some c =>
      rw [hp] at hq s4
      cases c with
      | ret => exact ⟨.ret, _, _, hq, k, s4⟩
      | exit id => exact ⟨.exit id, _, _, hq, k, rfl, s4⟩
      | _ => exact hq.elim
  | panicked ch =>
    have s2 := step_leave_panicked (cs := cs) (c := b.atR { a with defers := [{ target := .collected w.heap.size, args := #[] }] ++ a.defers } (.inRangeFunc (w.heap.size + 1) :: k)) hleave
    exact ⟨.panic ch, _, _, hR, .inRangeFunc (w.heap.size + 1) :: k, Steps.head s1 (Steps.trans hsteps (.one s2))⟩
  | outgrown => exact hne.elim

/-- what a round comes to, by how its body is left -/
def roundEnd (l : Nat) (R : Ending → World → Prop) : Exit → Go.Act → World → Prop
  | .normal, _, w => ∃ L, w.heap[l]? = some (.loop L) ∧ R (.returned (.bool true)) (w.putObj l (.loop { L with state := .ready, pending := none }))
  | .ret, _, w => ∃ L, w.heap[l]? = some (.loop L) ∧ R (.returned (.bool false)) (w.putObj l (.loop { L with state := .done, pending := some .ret }))
  | .exit id, _, w => ∃ L, w.heap[l]? = some (.loop L) ∧ R (.returned (.bool false)) (w.putObj l (.loop { L with state := .done, pending := some (.exit id) }))
  | .panic ch, a, w => a.defers = [] ∧ R (.panicked ch) w
  | _, _, _ => False
theorem roundX_of {l : Nat} {f : FuncId} {tmps : Array Value} {assign body : Code} {R : Ending → World → Prop} (hf : ∃ g, P.funcs[f]? = some g)
    (h : Code.wpX P true f assign (fun e a1 w1 => e = .normal ∧ ∃ L, w1.heap[l]? = some (.loop L) ∧ L.state = .ready ∧ Code.wpX P true f body (roundEnd l R) a1 (w1.putObj l (.loop { L with state := .busy }))) { tmps := tmps, defers := [] } w) :
    RoundX P l f tmps assign body w R := by
  intro c cs hm
  let b : Frame := { (default : Frame) with fn := f, kind := .normal, roundOf := some l }
  have hb0 : Frame.round l f tmps assign body .normal = atX b { tmps := tmps, defers := [] } [.code assign, .beginRound, .code body] := by
    simp [Frame.round, atX, b]
  obtain ⟨e, a1, w1, ⟨rfl, L, hL, hst, hbody⟩, s1⟩ := h b [.beginRound, .code body] (c :: cs) ⟨by simp, rfl⟩
  rw [← hb0] at s1
  have s2 := stepR_beginRound (P := P) (b := b) (a := a1) (k := [.code body]) (cs := c :: cs) rfl (run_beginRound (P := P) hL hst)
  obtain ⟨e, a2, w2, hq, harr⟩ := hbody b [] (c :: cs) ⟨by simp, rfl⟩
  have s12 := Steps.trans s1 (.one s2)
  cases e with
  | normal =>
    obtain ⟨L2, hL2, hR⟩ := hq
    exact ⟨_, _, hR, Steps.trans s12 (Steps.trans harr (.one (stepR_round_end (P := P) (b := b) rfl rfl (run_endRound (P := P) none hL2))))⟩
  | ret =>
    obtain ⟨L2, hL2, hR⟩ := hq
    obtain ⟨k1, s3⟩ := harr
    exact ⟨_, _, hR, Steps.trans s12 (Steps.trans s3 (.one (stepR_round_ret (P := P) (b := b) rfl rfl (run_endRound (P := P) (some .ret) hL2))))⟩
  | exit id =>
    obtain ⟨L2, hL2, hR⟩ := hq
    obtain ⟨k1, hk, s3⟩ := harr
    exact ⟨_, _, hR, Steps.trans s12 (Steps.trans s3 (.one (stepR_round_exit (P := P) (b := b) rfl rfl (by rw [hk]; rfl) (run_endRound (P := P) (some (.exit id)) hL2))))⟩
  | panic ch =>
    obtain ⟨hd, hR⟩ := hq
    obtain ⟨todo, s3⟩ := harr
    obtain ⟨g, hg⟩ := hf
    refine ⟨.panicked ch, w2, hR, Steps.trans s12 (Steps.trans s3 (.one (step_lone_go ?_)))⟩
    simp [stepG, unwind, Frame.catches, atX, hd, b, hg]
  | goto l => exact harr.elim
  | outgrown => exact harr.elim

/-- where a function's frame stands when its code has been left -/
def Left (P : Program) (m : Machine) (b : Frame) (cs : List Frame) : Exit → Go.Act → World → Prop
  | .normal, a, w | .ret, a, w => ∃ todo, Steps P m (lone { atX b a todo with mode := .returning } cs w)
  | .panic ch, a, w => ∃ todo, Steps P m (lone { atX b a todo with mode := .panicking ch } cs w)
  | _, _, _ => False
theorem left_of_wpX {c : Code} {tmps : Array Value} {cs : List Frame} {b : Frame} (hb : b.roundOf = none) (hbf : b.fn = fn) (h : Code.wpX P false fn c Q { tmps := tmps, defers := [] } w) (hx : ∀ id a w, ¬ Q (.exit id) a w) :
    ∃ e a' w', Q e a' w' ∧ Left P (lone (atX b { tmps := tmps, defers := [] } [.code c]) cs w) b cs e a' w' := by
  obtain ⟨e, a', w', hq, harr⟩ := h b [] cs ⟨fun _ => hb, hbf⟩
  have he : ∀ (todo : List Item), (todo = [] ∨ ∃ k1, todo = .code .ret :: k1) → step P (lone (atX b a' todo) cs w') = .next (lone { atX b a' todo with mode := .returning } cs w') := by
    intro todo ht
    rcases ht with rfl | ⟨k1, rfl⟩ <;> exact step_lone_go (by simp [stepG, stepG.exec, atX, hb])
  cases e with
  | normal => exact ⟨.normal, a', w', hq, [], Steps.trans harr (.one (he _ (.inl rfl)))⟩
  | ret => obtain ⟨k1, hs⟩ := harr; exact ⟨.ret, a', w', hq, _, Steps.trans hs (.one (he _ (.inr ⟨k1, rfl⟩)))⟩
  | panic ch => exact ⟨.panic ch, a', w', hq, harr⟩
  | exit id => exact absurd hq (hx id a' w')
  | goto l => exact harr.elim
  | outgrown => exact harr.elim
end
end V
end Go.Proofs.Ytmmhbianajpdgaa
