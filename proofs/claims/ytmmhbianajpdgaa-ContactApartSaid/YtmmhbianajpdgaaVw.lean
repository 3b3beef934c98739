/- The walk of code in any frame, a loop's round among them: rules for regions, blocks, loops, calls, rounds, deferred calls. Plain rules over the machine's steps; no program in sight. -/
import Derived.Calls
import Derived.Orders
import Derived.Defers
import Derived.WalkKit
namespace Go.Proofs.Ytmmhbianajpdgaa
open Go.RowKit
namespace V

/-- a frame that runs, at some place -/
def atX (b : Frame) (a : Go.Act) (todo : List Item) : Frame := { b with tmps := a.tmps, todo := todo, defers := a.defers, mode := .run }
theorem eval_atX (b : Frame) (a : Go.Act) (todo : List Item) (x : Operand) : (atX b a todo).eval x = a.eval x := by cases x <;> rfl
theorem eval_atX' (b : Frame) (a : Go.Act) (todo : List Item) : (atX b a todo).eval = a.eval := funext (eval_atX b a todo)
/-- how code is left: off its end, by a jump that nothing in it catches, by a panic -/
def ArrX (P : Program) (m : Machine) (b : Frame) (k : List Item) (cs : List Frame) : Exit → Go.Act → World → Prop
  | .normal, a, w => Steps P m (lone (atX b a k) cs w)
  | .exit id, a, w => ∃ k1, exitTo id k1 = exitTo id k ∧ Steps P m (lone (atX b a (.code (.exit id) :: k1)) cs w)
  | .ret, a, w => ∃ k1, Steps P m (lone (atX b a (.code .ret :: k1)) cs w)
  | .panic chain, a, w => ∃ todo, Steps P m (lone { atX b a todo with mode := .panicking chain } cs w)
  | _, _, _ => False
theorem ArrX.of_steps {P : Program} {m m₁ : Machine} {b : Frame} {k : List Item} {cs : List Frame} {e : Exit} {a : Go.Act} {w : World}
    (h : Steps P m m₁) (h' : ArrX P m₁ b k cs e a w) : ArrX P m b k cs e a w := by
  cases e with
  | normal => exact Steps.trans h h'
  | exit id => obtain ⟨k1, hk, hs⟩ := h'; exact ⟨k1, hk, h.trans hs⟩
  | ret => obtain ⟨k1, hs⟩ := h'; exact ⟨k1, h.trans hs⟩
  | panic chain => obtain ⟨todo, hs⟩ := h'; exact ⟨todo, h.trans hs⟩
  | goto l => exact h'.elim
  | outgrown => exact h'.elim
/-- a place that catches no exit -/
theorem ArrX.pass {P : Program} {m : Machine} {b : Frame} {x : Item} {k : List Item} {cs : List Frame} {e : Exit} {a : Go.Act} {w : World}
    (hx : x.plain = true) (he : e ≠ .normal) (h : ArrX P m b (x :: k) cs e a w) : ArrX P m b k cs e a w := by
  cases e with
  | normal => exact absurd rfl he
  | exit id => obtain ⟨k1, hk, hs⟩ := h; exact ⟨k1, hk.trans (by cases x <;> simp_all [exitTo, Item.plain]), hs⟩
  | _ => exact h

def Code.wpX (P : Program) (rd : Bool) (fn : FuncId) (c : Code) (Q : Exit → Go.Act → World → Prop) (a : Go.Act) (w : World) : Prop :=
  ∀ (b : Frame) (k : List Item) (cs : List Frame), (rd = false → b.roundOf = none) ∧ b.fn = fn →
    ∃ e a' w', Q e a' w' ∧ ArrX P (lone (atX b a (.code c :: k)) cs w) b k cs e a' w'

section
variable {P : Program} {rd : Bool} {fn : FuncId} {Q : Exit → Go.Act → World → Prop} {a : Go.Act} {w : World} {b : Frame} {k : List Item} {cs : List Frame}

theorem stepX_skip : step P (lone (atX b a (.code .skip :: k)) cs w) = .next (lone (atX b a k) cs w) := step_lone_go (by simp [stepG, stepG.exec, atX])
theorem stepX_inBlock {id : Nat} : step P (lone (atX b a (.inBlock id :: k)) cs w) = .next (lone (atX b a k) cs w) := step_lone_go (by simp [stepG, stepG.exec, atX])
theorem stepX_seq {x y : Code} : step P (lone (atX b a (.code (.seq x y) :: k)) cs w) = .next (lone (atX b a (.code x :: .code y :: k)) cs w) := step_lone_go (by simp [stepG, stepG.exec, atX])
theorem stepX_cond {c : Operand} {x y : Code} {t : Bool} (h : a.eval c = .bool t) : step P (lone (atX b a (.code (.cond c x y) :: k)) cs w) = .next (lone (atX b a (.code (if t then x else y) :: k)) cs w) :=
  step_lone_go (by
    have := eval_atX b a (.code (.cond c x y) :: k) c
    simp only [atX] at this
    simp [stepG, stepG.exec, atX, this, h])
theorem stepX_block {id : Nat} {c : Code} : step P (lone (atX b a (.code (.block id c) :: k)) cs w) = .next (lone (atX b a (.code c :: .inBlock id :: k)) cs w) := step_lone_go (by simp [stepG, stepG.exec, atX])
theorem stepX_loop {c : Code} : step P (lone (atX b a (.code (.loop c) :: k)) cs w) = .next (lone (atX b a (.code c :: .inLoop c :: k)) cs w) := step_lone_go (by simp [stepG, stepG.exec, atX])
theorem stepX_inLoop {c : Code} : step P (lone (atX b a (.inLoop c :: k)) cs w) = .next (lone (atX b a (.code c :: .inLoop c :: k)) cs w) := step_lone_go (by simp [stepG, stepG.exec, atX])
theorem stepX_exit {id : Nat} {k' : List Item} (h : exitTo id k = some k') : step P (lone (atX b a (.code (.exit id) :: k)) cs w) = .next (lone (atX b a k') cs w) := step_lone_go (by simp [stepG, stepG.exec, atX, h])
theorem stepX_region {id : Nat} {ops : Array Oper} : step P (lone (atX b a (.code (.region id ops false) :: k)) cs w) = .next (lone (atX b a (.inRegion ops (List.range ops.size) :: k)) cs w) :=
  step_lone_go (by simp [stepG, stepG.exec, atX])
theorem stepX_region_draw {id : Nat} {ops : Array Oper} : step P (lone (atX b a (.code (.region id ops true) :: k)) cs w) =
      .next (lone (atX b a (.inRegion ops (Region.schedule (P.follows .mixedOrders) ops (w.tape w.drawn (.order b.fn id))) :: k)) cs { w with drawn := w.drawn + 1 }) :=
  step_lone_go (by simp [stepG, stepG.exec, atX, choose, Sem.run, Question.forced, Question.cut])
theorem stepX_region_end {ops : Array Oper} : step P (lone (atX b a (.inRegion ops [] :: k)) cs w) = .next (lone (atX b a k) cs w) := step_lone_go (by simp [stepG, stepG.exec, atX])
theorem finish_atX (b : Frame) (a : Go.Act) (ops : Array Oper) (i : Nat) (rest : List Nat) (k : List Item) (v : Value) :
    (atX b a (.inRegion ops (i :: rest) :: k)).finish v = atX b (a.put ((ops[i]?).bind (·.dst)) v) (.inRegion ops rest :: k) := by
  cases h : (ops[i]?).bind (·.dst) <;> simp [Frame.finish, atX, Go.Act.put, h]
theorem raise_atX (b : Frame) (a : Go.Act) (todo : List Item) (chain : List PanicEntry) : (atX b a todo).raise chain = { atX b a todo with mode := .panicking chain } := rfl
theorem stepX_op_skip {ops : Array Oper} {i : Nat} {rest : List Nat} (h : ((ops[i]?).map (Region.wanted · (yielded ops a.tmps))).getD false = false) :
    step P (lone (atX b a (.inRegion ops (i :: rest) :: k)) cs w) = .next (lone (atX b (a.put ((ops[i]?).bind (·.dst)) undef) (.inRegion ops rest :: k)) cs w) := by
  rw [← finish_atX]
  exact step_lone_go (by
    have h' := h
    simp only [atX] at *
    simp [stepG, stepG.exec, h'])

theorem wpX_mono {c : Code} {Q' : Exit → Go.Act → World → Prop} (h : Code.wpX P rd fn c Q a w) (hq : ∀ e a w, Q e a w → Q' e a w) : Code.wpX P rd fn c Q' a w :=
  fun b k cs hr => let ⟨e, a', w', q, r⟩ := h b k cs hr; ⟨e, a', w', hq _ _ _ q, r⟩
theorem wpX_skip (h : Q .normal a w) : Code.wpX P rd fn .skip Q a w := fun _ _ _ _ => ⟨.normal, a, w, h, .one stepX_skip⟩
theorem wpX_exit {id : Nat} (h : Q (.exit id) a w) : Code.wpX P rd fn (.exit id) Q a w := fun _ _ _ _ => ⟨.exit id, a, w, h, _, rfl, Steps.refl P _⟩
theorem wpX_ret (h : Q .ret a w) : Code.wpX P rd fn .ret Q a w := fun _ _ _ _ => ⟨.ret, a, w, h, _, Steps.refl P _⟩
theorem wpX_seq {x y : Code} (h : Code.wpX P rd fn x (Exit.then (Code.wpX P rd fn y Q) Q) a w) : Code.wpX P rd fn (.seq x y) Q a w := by
  intro b k cs hr
  obtain ⟨e, a₁, w₁, hq, harr⟩ := h b (.code y :: k) cs hr
  cases e with
  | normal =>
    obtain ⟨e₂, a₂, w₂, hq₂, harr₂⟩ := hq b k cs hr
    exact ⟨e₂, a₂, w₂, hq₂, .of_steps (.head stepX_seq harr) harr₂⟩
  | exit id => exact ⟨_, a₁, w₁, hq, .of_steps (.one stepX_seq) (.pass (x := .code y) rfl (by simp) harr)⟩
  | ret => exact ⟨_, a₁, w₁, hq, .of_steps (.one stepX_seq) (.pass (x := .code y) rfl (by simp) harr)⟩
  | panic ch => exact ⟨_, a₁, w₁, hq, .of_steps (.one stepX_seq) (.pass (x := .code y) rfl (by simp) harr)⟩
  | goto l => exact harr.elim
  | outgrown => exact harr.elim
theorem wpX_cond {c : Operand} {x y : Code} {t : Bool} (hc : a.eval c = .bool t) (h : Code.wpX P rd fn (if t then x else y) Q a w) : Code.wpX P rd fn (.cond c x y) Q a w :=
  fun b k cs hr => let ⟨e, a', w', q, r⟩ := h b k cs hr; ⟨e, a', w', q, .of_steps (.one (stepX_cond hc)) r⟩
theorem wpX_cond_true {c : Operand} {x y : Code} (hc : a.eval c = .bool true) (h : Code.wpX P rd fn x Q a w) : Code.wpX P rd fn (.cond c x y) Q a w := wpX_cond hc h
theorem wpX_cond_false {c : Operand} {x y : Code} (hc : a.eval c = .bool false) (h : Code.wpX P rd fn y Q a w) : Code.wpX P rd fn (.cond c x y) Q a w := wpX_cond hc h
theorem wpX_block {id : Nat} {c : Code} (h : Code.wpX P rd fn c (Exit.inBlock id Q) a w) : Code.wpX P rd fn (.block id c) Q a w := by
  intro b k cs hr
  obtain ⟨e, a₁, w₁, hq, harr⟩ := h b (.inBlock id :: k) cs hr
  cases e with
  | normal => exact ⟨.normal, a₁, w₁, hq, .head stepX_block (Steps.trans harr (.one stepX_inBlock))⟩
  | exit id' =>
    obtain ⟨k1, hk, hs⟩ := harr
    by_cases hid : id' = id
    · simp only [Exit.inBlock, hid, if_true] at hq
      subst hid
      have hk' : exitTo id' k1 = some k := by rw [hk]; simp [exitTo]
      exact ⟨.normal, a₁, w₁, hq, .head stepX_block (Steps.trans hs (.one (stepX_exit hk')))⟩
    · simp only [Exit.inBlock, hid, if_false] at hq
      refine ⟨.exit id', a₁, w₁, hq, k1, ?_, .head stepX_block hs⟩
      have : (id == id') = false := by simp; exact fun h => hid h.symm
      rw [hk]; simp [exitTo, this]
  | ret => exact ⟨_, a₁, w₁, hq, .of_steps (.one stepX_block) harr⟩
  | panic ch => exact ⟨_, a₁, w₁, hq, .of_steps (.one stepX_block) harr⟩
  | goto l => exact harr.elim
  | outgrown => exact harr.elim

/-- some rounds of a loop at most -/
def roundsX (P : Program) (rd : Bool) (fn : FuncId) (c : Code) (Q : Exit → Go.Act → World → Prop) : Nat → Go.Act → World → Prop
  | 0, _, _ => False
  | n + 1, a, w => Code.wpX P rd fn c (Exit.then (roundsX P rd fn c Q n) Q) a w
theorem wpX_loop_rounds {c : Code} (n : Nat) (h : roundsX P rd fn c Q n a w) : Code.wpX P rd fn (.loop c) Q a w := by
  intro b k cs hr
  have key : ∀ n a w, roundsX P rd fn c Q n a w → ∃ e a' w', Q e a' w' ∧ ArrX P (lone (atX b a (.code c :: .inLoop c :: k)) cs w) b k cs e a' w' := by
    intro n
    induction n with
    | zero => intro a w h; exact h.elim
    | succ n ih =>
      intro a w h
      obtain ⟨e, a₁, w₁, hq, harr⟩ := h b (.inLoop c :: k) cs hr
      cases e with
      | normal =>
        obtain ⟨e₂, a₂, w₂, hq₂, harr₂⟩ := ih a₁ w₁ hq
        exact ⟨e₂, a₂, w₂, hq₂, .of_steps (Steps.trans harr (.one stepX_inLoop)) harr₂⟩
      | exit id => exact ⟨_, a₁, w₁, hq, .pass (x := .inLoop c) rfl (by simp) harr⟩
      | ret => exact ⟨_, a₁, w₁, hq, .pass (x := .inLoop c) rfl (by simp) harr⟩
      | panic ch => exact ⟨_, a₁, w₁, hq, .pass (x := .inLoop c) rfl (by simp) harr⟩
      | goto l => exact harr.elim
      | outgrown => exact harr.elim
  obtain ⟨e, a', w', hq, harr⟩ := key n a w h
  exact ⟨e, a', w', hq, .of_steps (.one stepX_loop) harr⟩
end

/-- a call that comes back, or panics -/
def Calls' (P : Program) (f : FuncId) (args : Array Value) (w : World) (R : Ending → World → Prop) : Prop :=
  Calls P f args w fun e w' => (match e with | .outgrown => False | _ => True) ∧ R e w'
/-- a round of a loop over a function: it comes back with a value, or panics -/
def RoundX (P : Program) (l : Nat) (f : FuncId) (tmps : Array Value) (assign body : Code) (w : World) (R : Ending → World → Prop) : Prop :=
  ∀ (c : Frame) (cs : List Frame), c.mode = .run → ∃ e w', R e w' ∧ match e with
    | .returned v => Steps P (lone (Frame.round l f tmps assign body .normal) (c :: cs) w) (lone (c.finish v) cs w')
    | .panicked chain => Steps P (lone (Frame.round l f tmps assign body .normal) (c :: cs) w) (lone (c.raise chain) cs w')
    | .outgrown => False
theorem Calls'.mono {P : Program} {f : FuncId} {args : Array Value} {w : World} {R R' : Ending → World → Prop} (h : Calls' P f args w R) (hr : ∀ e w', R e w' → R' e w') : Calls' P f args w R' :=
  Calls.mono h fun e w' ⟨h1, h2⟩ => ⟨h1, hr e w' h2⟩
theorem RoundX.mono {P : Program} {l : Nat} {f : FuncId} {tmps : Array Value} {assign body : Code} {w : World} {R R' : Ending → World → Prop} (h : RoundX P l f tmps assign body w R) (hr : ∀ e w', R e w' → R' e w') : RoundX P l f tmps assign body w R' :=
  fun c cs hm => let ⟨e, w', r, s⟩ := h c cs hm; ⟨e, w', hr _ _ r, s⟩
/-- what becomes of an operation by what its run is -/
def Oper.uponX (P : Program) (rd : Bool) (o : Oper) (a : Go.Act) (next : Go.Act → World → Prop) (Q : Exit → Go.Act → World → Prop) : Result Next → Prop
  | .ok (.value v) w' => next (a.put o.dst v) w'
  | .ok .skip w' => next (a.put o.dst undef) w'
  | .ok (.defer d) w' => rd = false ∧ next ({ a with defers := d :: a.defers }.put o.dst undef) w'
  | .ok (.enter f args) w' => Calls' P f args w' fun
      | .returned v, w'' => next (a.put o.dst v) w''
      | .panicked chain, w'' => Q (.panic chain) a w''
      | .outgrown, _ => False
  | .ok (.round l f tmps assign body) w' => RoundX P l f tmps assign body w' fun
      | .returned v, w'' => next (a.put o.dst v) w''
      | .panicked chain, w'' => Q (.panic chain) a w''
      | .outgrown, _ => False
  | .halt (.panic v) w' => Q (.panic [{ v, recovered := false }]) a w'
  | _ => False
section
variable {P : Program} {rd : Bool} {o : Oper} {a : Go.Act} {next : Go.Act → World → Prop} {Q : Exit → Go.Act → World → Prop} {w : World} {ops : Array Oper}
theorem Oper.uponX_mono {K K' : Go.Act → World → Prop} (h : ∀ a w, K a w → K' a w) : ∀ {r : Result Next}, Oper.uponX P rd o a K Q r → Oper.uponX P rd o a K' Q r := by
  intro r hh
  cases r with
  | ok n w' =>
    cases n <;> simp only [Oper.uponX] at hh ⊢ <;>
      first
        | exact h _ _ hh
        | exact ⟨hh.1, h _ _ hh.2⟩
        | exact Calls'.mono hh (fun e w'' he => by cases e <;> first | exact h _ _ he | exact he)
        | exact RoundX.mono hh (fun e w'' he => by cases e <;> first | exact h _ _ he | exact he)
  | halt x w' => cases x <;> simp only [Oper.uponX] at hh ⊢ <;> exact hh
def wpOpX (P : Program) (rd : Bool) (ops : Array Oper) (Q : Exit → Go.Act → World → Prop) (i : Nat) (K : Go.Act → World → Prop) (a : Go.Act) (w : World) : Prop :=
  match ops[i]? with
  | none => K a w
  | some o => if Region.wanted o (yielded ops a.tmps) then Oper.uponX P rd o a K Q ((execOp a.eval o).run P w) else K (a.put o.dst undef) w
def wpOpsX (P : Program) (rd : Bool) (ops : Array Oper) (Q : Exit → Go.Act → World → Prop) : List Nat → Go.Act → World → Prop
  | [], a, w => Q .normal a w
  | i :: rest, a, w => wpOpX P rd ops Q i (wpOpsX P rd ops Q rest) a w
theorem wpOpX_mono {i : Nat} {K K' : Go.Act → World → Prop} (h : ∀ a w, K a w → K' a w) (hh : wpOpX P rd ops Q i K a w) : wpOpX P rd ops Q i K' a w := by
  unfold wpOpX at *
  split
  · exact h _ _ (by simpa [*] using hh)
  · rename_i o ho
    simp only [ho] at hh
    split
    · rename_i hw; simp only [hw, if_true] at hh; exact Oper.uponX_mono h hh
    · rename_i hw; simp only [hw] at hh; exact h _ _ hh
theorem stepGX_op {b : Frame} {k : List Item} {cs : List Frame} {i : Nat} {rest : List Nat} (ho : ops[i]? = some o) (hw : Region.wanted o (yielded ops a.tmps) = true) (hd : b.roundOf = none ∨ ∀ c, o.op ≠ .defer c) :
    stepG P true { frame := atX b a (.inRegion ops (i :: rest) :: k), callers := cs, status := .running, dying := none } w =
      stepG.apply P true (atX b a (.inRegion ops (i :: rest) :: k)) cs none (execOp a.eval o) w := by
  have he := eval_atX' b a (.inRegion ops (i :: rest) :: k)
  simp only [atX] at he
  simp only [stepG, stepG.exec, stepG.oper, Frame.oper?, atX, ho, Option.map_some, hw, Option.getD_some, if_true, he]
  split
  · rename_i l c h1 h2
    rcases hd with hd | hd
    · rw [hd] at h1; cases h1
    · exact absurd h2 (hd c)
  · rfl
end
/-- the frame of a call whose parts are as kept -/
theorem lone_run {b : Frame} {a : Go.Act} {todo : List Item} : (atX b a todo).mode = .run := rfl

theorem wp_opsX {P : Program} {rd : Bool} {ops : Array Oper} {Q : Exit → Go.Act → World → Prop} (hnd : rd = true → ∀ (i : Nat) (o : Oper), ops[i]? = some o → ∀ c, o.op ≠ .defer c) (l : List Nat) :
    ∀ (a : Go.Act) (w : World), wpOpsX P rd ops Q l a w → ∀ (b : Frame) (k : List Item) (cs : List Frame), (rd = false → b.roundOf = none) →
      ∃ e a' w', Q e a' w' ∧ ArrX P (lone (atX b a (.inRegion ops l :: k)) cs w) b k cs e a' w' := by
  induction l with
  | nil => exact fun a w h b k cs _ => ⟨.normal, a, w, h, .one stepX_region_end⟩
  | cons i rest ih =>
    intro a w h b k cs hrd
    simp only [wpOpsX, wpOpX] at h
    cases ho : ops[i]? with
    | none =>
      simp only [ho] at h
      obtain ⟨e, a', w', hq, harr⟩ := ih a w h b k cs hrd
      have hs := stepX_op_skip (P := P) (b := b) (a := a) (k := k) (cs := cs) (w := w) (ops := ops) (i := i) (rest := rest) (by simp [ho])
      simp only [ho, Option.bind_none, Go.Act.put] at hs
      exact ⟨e, a', w', hq, .of_steps (.one hs) harr⟩
    | some o =>
      simp only [ho] at h
      by_cases hw : Region.wanted o (yielded ops a.tmps) = true
      · simp only [hw, if_true] at h
        have hnd' : b.roundOf = none ∨ ∀ c, o.op ≠ .defer c := by
          cases rd with
          | false => exact .inl (hrd rfl)
          | true => exact .inr (hnd rfl i o ho)
        have hg := stepGX_op (P := P) (b := b) (k := k) (cs := cs) (w := w) (rest := rest) ho hw hnd'
        have hfin : ∀ v, (atX b a (.inRegion ops (i :: rest) :: k)).finish v = atX b (a.put o.dst v) (.inRegion ops rest :: k) := by
          intro v; rw [finish_atX, ho]; rfl
        generalize hr : (execOp a.eval o).run P w = r at h
        unfold Oper.uponX at h
        split at h
        · rename_i v w'
          obtain ⟨e, a', w'', hq, harr⟩ := ih _ _ h b k cs hrd
          refine ⟨e, a', w'', hq, .of_steps (.one (step_lone_go ?_)) harr⟩
          rw [hg, ← hfin]; simp [stepG.apply, hr]
        · rename_i w'
          obtain ⟨e, a', w'', hq, harr⟩ := ih _ _ h b k cs hrd
          refine ⟨e, a', w'', hq, .of_steps (.one (step_lone_go ?_)) harr⟩
          rw [hg, ← hfin]; simp [stepG.apply, hr]
        · rename_i d w'
          obtain ⟨e, a', w'', hq, harr⟩ := ih _ _ h.2 b k cs hrd
          refine ⟨e, a', w'', hq, .of_steps (.one (step_lone_go ?_)) harr⟩
          have : ({ atX b a (.inRegion ops (i :: rest) :: k) with defers := d :: a.defers } : Frame).finish undef =
              atX b ({ a with defers := d :: a.defers }.put o.dst undef) (.inRegion ops rest :: k) := by
            have := finish_atX b { a with defers := d :: a.defers } ops i rest k undef
            rw [ho] at this; exact this
          rw [hg]; simp only [stepG.apply, Sem.runT_eq, hr, GStep.bare_after]
          exact congrArg (fun fr => GStep.go { frame := fr, callers := cs, status := .running, dying := none } w') this
        · rename_i f args w'
          obtain ⟨e, w'', fr, ⟨hne, hR⟩, hsteps, _, hleave⟩ := h (atX b a (.inRegion ops (i :: rest) :: k) :: cs)
          have henter : step P (lone (atX b a (.inRegion ops (i :: rest) :: k)) cs w) =
              .next (lone (Frame.enter P f args .normal) (atX b a (.inRegion ops (i :: rest) :: k) :: cs) w') :=
            step_lone_go (by rw [hg]; simp [stepG.apply, hr, atX])
          cases e with
          | returned v =>
            obtain ⟨e, a', w₃, hq, harr⟩ := ih _ _ hR b k cs hrd
            refine ⟨e, a', w₃, hq, .of_steps (.head henter (Steps.trans hsteps (.one ?_))) harr⟩
            rw [← hfin]; exact step_leave_returned hleave
          | panicked chain =>
            refine ⟨.panic chain, a, w'', hR, .inRegion ops (i :: rest) :: k, .head henter (Steps.trans hsteps (.one ?_))⟩
            rw [← raise_atX]; exact step_leave_panicked hleave
          | outgrown => exact hne.elim
        · rename_i l f tmps assign body w'
          obtain ⟨e, w'', hR, hsteps⟩ := h (atX b a (.inRegion ops (i :: rest) :: k)) cs rfl
          have henter : step P (lone (atX b a (.inRegion ops (i :: rest) :: k)) cs w) =
              .next (lone (Frame.round l f tmps assign body .normal) (atX b a (.inRegion ops (i :: rest) :: k) :: cs) w') :=
            step_lone_go (by rw [hg]; simp [stepG.apply, hr, atX])
          cases e with
          | returned v =>
            obtain ⟨e, a', w₃, hq, harr⟩ := ih _ _ hR b k cs hrd
            refine ⟨e, a', w₃, hq, .of_steps (.head henter ?_) harr⟩
            rw [← hfin]; exact hsteps
          | panicked chain =>
            refine ⟨.panic chain, a, w'', hR, .inRegion ops (i :: rest) :: k, .head henter ?_⟩
            rw [← raise_atX]; exact hsteps
          | outgrown => exact hsteps.elim
        · rename_i v w'
          refine ⟨_, a, w', h, .inRegion ops (i :: rest) :: k, .one (step_lone_go ?_)⟩
          rw [hg, ← raise_atX]; simp [stepG.apply, hr]
        · exact h.elim
      · simp only [hw, if_false, Bool.false_eq_true] at h
        obtain ⟨e, a', w', hq, harr⟩ := ih _ _ h b k cs hrd
        have hs := stepX_op_skip (P := P) (b := b) (a := a) (k := k) (cs := cs) (w := w) (ops := ops) (i := i) (rest := rest) (by simp [ho]; simpa using hw)
        simp only [ho, Option.bind_some] at hs
        exact ⟨e, a', w', hq, .of_steps (.one hs) harr⟩
/-- no operation of a region is a defer statement -/
def noDefer (ops : Array Oper) : Bool := ops.toList.all fun o => match o.op with | .defer _ => false | _ => true
theorem noDefer_spec {ops : Array Oper} (h : noDefer ops = true) (i : Nat) (o : Oper) (ho : ops[i]? = some o) (c : Call) : o.op ≠ .defer c := by
  intro e
  have hm : o ∈ ops.toList := by rw [← Array.getElem?_toList] at ho; exact List.mem_of_getElem? ho
  have := List.all_eq_true.1 h o hm
  simp [e] at this
theorem wpX_region {P : Program} {rd : Bool} {fn : FuncId} {id : Nat} {ops : Array Oper} {Q : Exit → Go.Act → World → Prop} {a : Go.Act} {w : World} (hnd : rd = true → noDefer ops = true)
    (h : wpOpsX P rd ops Q (List.range ops.size) a w) : Code.wpX P rd fn (.region id ops false) Q a w :=
  fun b k cs hr => let ⟨e, a', w', q, r⟩ := wp_opsX (fun h i o ho c => noDefer_spec (hnd h) i o ho c) _ a w h b k cs hr.1; ⟨e, a', w', q, .of_steps (.one stepX_region) r⟩

def wpAnyX (P : Program) (rd : Bool) (ops : Array Oper) (Q : Exit → Go.Act → World → Prop) : Nat → Array Bool → Go.Act → World → Prop
  | 0, listed, a, w => Region.ready .any ops listed = [] ∧ Q .normal a w
  | fuel + 1, listed, a, w =>
    (Region.ready .any ops listed = [] → Q .normal a w) ∧
    ∀ i ∈ Region.ready .any ops listed, wpOpX P rd ops Q i (wpAnyX P rd ops Q fuel (listed.setIfInBounds i true)) a w
section
variable {P : Program} {rd : Bool} {ops : Array Oper} {Q : Exit → Go.Act → World → Prop}
theorem wpAnyX_sound : ∀ (fuel t : Nat) (listed : Array Bool) (a : Go.Act) (w : World), wpAnyX P rd ops Q fuel listed a w →
    wpOpsX P rd ops Q (Region.linearise.go .any ops fuel t listed []) a w := by
  intro fuel
  induction fuel with
  | zero => intro t listed a w h; simpa [Region.linearise.go, wpOpsX] using h.2
  | succ fuel ih =>
    intro t listed a w h
    obtain ⟨h₀, h₁⟩ := h
    simp only [Region.linearise.go]
    change wpOpsX P rd ops Q (match (Region.ready .any ops listed)[t % (Region.ready .any ops listed).length]? with
      | some i => Region.linearise.go .any ops fuel (t / (Region.ready .any ops listed).length) (listed.setIfInBounds i true) [i]
      | none => [].reverse) a w
    cases hi : (Region.ready .any ops listed)[t % (Region.ready .any ops listed).length]? with
    | none =>
      have hnil : Region.ready .any ops listed = [] := by
        cases hr : Region.ready .any ops listed with
        | nil => rfl
        | cons x xs =>
          rw [hr] at hi
          have hlt : t % (x :: xs).length < (x :: xs).length := Nat.mod_lt _ (by simp)
          simp at hi
          simp at hlt
          omega
      simpa [wpOpsX] using h₀ hnil
    | some i =>
      simp only []
      rw [linearise_go_acc, List.reverse_singleton, List.singleton_append]
      exact wpOpX_mono (fun a w => ih _ _ a w) (h₁ i (List.mem_of_getElem? hi))
theorem wpX_region_any {fn : FuncId} {id : Nat} {a : Go.Act} {w : World} (hm : P.follows .mixedOrders = true) (hnd : rd = true → noDefer ops = true)
    (h : wpAnyX P rd ops Q ops.size (Array.replicate ops.size false) a { w with drawn := w.drawn + 1 }) : Code.wpX P rd fn (.region id ops true) Q a w := by
  intro b k cs hr
  have hl : wpOpsX P rd ops Q (Region.schedule (P.follows .mixedOrders) ops (w.tape w.drawn (.order b.fn id))) a { w with drawn := w.drawn + 1 } := by
    simp only [Region.schedule, hm, Bool.true_or, if_true]
    exact wpAnyX_sound ops.size _ _ a _ h
  obtain ⟨e, a', w', q, r⟩ := wp_opsX (fun h i o ho c => noDefer_spec (hnd h) i o ho c) _ a _ hl b k cs hr.1
  exact ⟨e, a', w', q, .of_steps (.one stepX_region_draw) r⟩
end
end V
end Go.Proofs.Ytmmhbianajpdgaa
