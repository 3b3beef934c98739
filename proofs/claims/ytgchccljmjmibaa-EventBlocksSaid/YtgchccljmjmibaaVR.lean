/- A deferred function that asks what panicked: the steps of the machine. -/
import Derived.Test.YtgchccljmjmibaaVA
import Derived.Defers
namespace Go.Proofs.Ytgchccljmjmibaa
open Go.RowKit
namespace V

/-- what a deferred function is told, and how its caller stands then -/
inductive RecOk : FrameMode → Value → FrameMode → Prop
  | calm : RecOk .returning .nilIface .returning
  | pan (v : Value) : RecOk (.panicking [{ v, recovered := false }]) v (.panicking [{ v, recovered := true }])
theorem RecOk.settle {u u' : FrameMode} {v : Value} (h : RecOk u v u') : settle u' = .returning := by
  cases h with
  | calm => rfl
  | pan v => simp [Go.settle]
theorem RecOk.run {u u' : FrameMode} {v : Value} (h : RecOk u v u') : u ≠ .run := by cases h <;> simp

/-- code of a deferred function that asks first of all what panicked -/
def Code.wpR (P : Program) (fn : FuncId) (u u' : FrameMode) (c : Code) (Q : Exit → Go.Act → World → Prop) (a : Go.Act) (w : World) : Prop :=
  ∀ (b : Frame) (k : List Item) (c0 : Frame) (cs : List Frame), b.kind = .deferred → b.roundOf = none → b.fn = fn → c0.mode = u →
    ∃ e a' w', Q e a' w' ∧ ArrX P (lone (atX b a (.code c :: k)) (c0 :: cs) w) b k ({ c0 with mode := u' } :: cs) e a' w'

section
variable {P : Program} {fn : FuncId} {u u' : FrameMode} {Q : Exit → Go.Act → World → Prop} {a : Go.Act} {w : World}

theorem wpR_seq {x y : Code} (h : Code.wpR P fn u u' x (Exit.then (Code.wpX P false fn y Q) Q) a w) : Code.wpR P fn u u' (.seq x y) Q a w := by
  intro b k c0 cs hk hr hf hm
  obtain ⟨e, a1, w1, q, r⟩ := h b (.code y :: k) c0 cs hk hr hf hm
  have hs := stepX_seq (P := P) (b := b) (a := a) (k := k) (cs := c0 :: cs) (w := w) (x := x) (y := y)
  by_cases he : e = .normal
  · subst he
    obtain ⟨e2, a2, w2, q2, r2⟩ := q b k ({ c0 with mode := u' } :: cs) ⟨fun _ => hr, hf⟩
    exact ⟨e2, a2, w2, q2, .of_steps (.head hs r) r2⟩
  · refine ⟨e, a1, w1, ?_, .of_steps (.one hs) (ArrX.pass rfl he r)⟩
    cases e <;> first | exact absurd rfl he | exact q
theorem wpR_block {id : Nat} {c : Code} (h : Code.wpR P fn u u' c (Exit.inBlock id Q) a w) : Code.wpR P fn u u' (.block id c) Q a w := by
  intro b k c0 cs hk hr hf hm
  obtain ⟨e, a1, w1, q, r⟩ := h b (.inBlock id :: k) c0 cs hk hr hf hm
  have hs := stepX_block (P := P) (b := b) (a := a) (k := k) (cs := c0 :: cs) (w := w) (id := id) (c := c)
  cases e with
  | normal => exact ⟨.normal, a1, w1, q, .of_steps (.one hs) (Steps.trans r (.one stepX_inBlock))⟩
  | exit i =>
    obtain ⟨k1, hk1, hs1⟩ := r
    by_cases hi : i = id
    · subst hi
      refine ⟨.normal, a1, w1, by simpa [Exit.inBlock] using q, .of_steps (.one hs) (Steps.trans hs1 (.one (stepX_exit ?_)))⟩
      rw [hk1]; simp [exitTo]
    · refine ⟨.exit i, a1, w1, by simpa [Exit.inBlock, hi] using q, k1, ?_, .head hs hs1⟩
      rw [hk1]
      have : ¬ id = i := fun e => hi e.symm
      simp [exitTo, this]
  | ret => obtain ⟨k1, hs1⟩ := r; exact ⟨.ret, a1, w1, q, k1, .head hs hs1⟩
  | panic ch => obtain ⟨t, hs1⟩ := r; exact ⟨.panic ch, a1, w1, q, t, .head hs hs1⟩
  | goto l => exact r.elim
  | outgrown => exact r.elim
theorem wpR_region {id : Nat} {ops : Array Oper} {o : Oper} {rv : Value} (hu : RecOk u rv u') (ho : ops[0]? = some o) (hg : o.guard = none) (hop : isRec o.op = true)
    (h : wpOpsX P false ops Q ((List.range ops.size).drop 1) (a.put o.dst rv) w) : Code.wpR P fn u u' (.region id ops false) Q a w := by
  intro b k c0 cs hk hr hf hm
  have hsz : 0 < ops.size := by
    rcases Nat.lt_or_ge 0 ops.size with x | x
    · exact x
    · rw [Array.getElem?_eq_none x] at ho; cases ho
  have hrange : List.range ops.size = 0 :: (List.range ops.size).drop 1 := by
    cases hn : ops.size with
    | zero => omega
    | succ n => rw [List.range_succ_eq_map]; rfl
  obtain ⟨e, a', w', q, r⟩ := wp_opsX (fun h => by cases h) _ _ w h b k ({ c0 with mode := u' } :: cs) (fun _ => hr)
  have s1 := stepX_region (P := P) (b := b) (a := a) (k := k) (cs := c0 :: cs) (w := w) (id := id) (ops := ops)
  rw [hrange] at s1
  have hw : Region.wanted o (yielded ops a.tmps) = true := by simp [Region.wanted, hg]
  have hgo := stepGX_op (P := P) (b := b) (k := k) (cs := c0 :: cs) (w := w) (rest := (List.range ops.size).drop 1) ho hw (.inl hr)
  have hrun : (execOp a.eval o).run P w = .ok .recover w := by
    obtain ⟨dst, op⟩ := o
    rename_i ty ps gd af
    cases op <;> simp only [isRec] at hop <;> try (cases hop; done)
    rename_i c
    obtain ⟨cal, as, ts⟩ := c
    cases cal <;> simp only at hop <;> try (cases hop; done)
    rename_i bi
    cases bi <;> simp only at hop <;> try (cases hop; done)
    simp [execOp, resolve, invoke, builtin]
  refine ⟨e, a', w', q, .of_steps (.head s1 (.one (step_lone_go ?_))) r⟩
  rw [hgo]
  have hfin : ∀ v, (atX b a (.inRegion ops (0 :: (List.range ops.size).drop 1) :: k)).finish v = atX b (a.put o.dst v) (.inRegion ops ((List.range ops.size).drop 1) :: k) := by
    intro v; rw [finish_atX, ho]; rfl
  cases hu with
  | calm =>
    have hc : ({ c0 with mode := FrameMode.returning } : Frame) = c0 := by rw [← hm]
    rw [hc, ← hfin]
    simp [stepG.apply, hrun, tryRecover, atX, hk, hr, hm]
  | pan v =>
    rw [← hfin]
    simp [stepG.apply, hrun, tryRecover, atX, hk, hr, hm]
end
end V
end Go.Proofs.Ytgchccljmjmibaa
