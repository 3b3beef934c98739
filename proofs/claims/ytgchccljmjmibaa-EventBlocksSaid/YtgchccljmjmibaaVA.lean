/- The walk of code in any frame, a loop's round among them: rules for regions, blocks, loops, calls, rounds, deferred calls. Plain rules over the machine's steps; no program in sight. -/
import Derived.Calls
import Derived.Orders
import Derived.Defers
import Derived.WalkKit
import Derived.RangeFuncLeaves
import Derived.Lib.AppendZeros
import Derived.RangeFuncRecord
import Derived.ChangeKeysEq
namespace Go.Proofs.Ytgchccljmjmibaa
open Go.RowKit
namespace V

/-- a frame that runs, at some place -/
def atX (b : Frame) (a : Go.Act) (todo : List Item) : Frame := { b with tmps := a.tmps, todo := todo, defers := a.defers, mode := .run }
theorem eval_atX (b : Frame) (a : Go.Act) (todo : List Item) (x : Operand) : (atX b a todo).eval x = a.eval x := by cases x <;> rfl
theorem eval_atX' (b : Frame) (a : Go.Act) (todo : List Item) : (atX b a todo).eval = a.eval := funext (eval_atX b a todo)
/-- how code is left: off its end, by a jump that nothing in it catches, by a panic -/
def ArrX (P : Program) (m : Machine) (b : Frame) (k : List Item) (cs : List Frame) : Exit → Go.Act → World → Prop
  | .normal, a, w => Steps P m (lone (atX b a k) cs w)
  | .exit id, a, w => ∃ k1, exitTo id k1 = exitTo id k ∧ Steps P m (lone (atX b a (.code (.exit id) :: k1)) cs w)
  | .ret, a, w => ∃ k1, Steps P m (lone (atX b a (.code .ret :: k1)) cs w)
  | .panic chain, a, w => ∃ todo, Steps P m (lone { atX b a todo with mode := .panicking chain } cs w)
  | _, _, _ => False
theorem ArrX.of_steps {P : Program} {m m₁ : Machine} {b : Frame} {k : List Item} {cs : List Frame} {e : Exit} {a : Go.Act} {w : World}
    (h : Steps P m m₁) (h' : ArrX P m₁ b k cs e a w) : ArrX P m b k cs e a w := by
  cases e with
  | normal => exact Steps.trans h h'
  | exit id => obtain ⟨k1, hk, hs⟩ := h'; exact ⟨k1, hk, h.trans hs⟩
  | ret => obtain ⟨k1, hs⟩ := h'; exact ⟨k1, h.trans hs⟩
  | panic chain => obtain ⟨todo, hs⟩ := h'; exact ⟨todo, h.trans hs⟩
  | goto l => exact h'.elim
  | outgrown => exact h'.elim
/-- a place that catches no exit -/
theorem ArrX.pass {P : Program} {m : Machine} {b : Frame} {x : Item} {k : List Item} {cs : List Frame} {e : Exit} {a : Go.Act} {w : World}
    (hx : x.plain = true) (he : e ≠ .normal) (h : ArrX P m b (x :: k) cs e a w) : ArrX P m b k cs e a w := by
  cases e with
  | normal => exact absurd rfl he
  | exit id => obtain ⟨k1, hk, hs⟩ := h; exact ⟨k1, hk.trans (by cases x <;> simp_all [exitTo, Item.plain]), hs⟩
  | _ => exact h

def Code.wpX (P : Program) (rd : Bool) (fn : FuncId) (c : Code) (Q : Exit → Go.Act → World → Prop) (a : Go.Act) (w : World) : Prop :=
  ∀ (b : Frame) (k : List Item) (cs : List Frame), (rd = false → b.roundOf = none) ∧ b.fn = fn →
    ∃ e a' w', Q e a' w' ∧ ArrX P (lone (atX b a (.code c :: k)) cs w) b k cs e a' w'

section
variable {P : Program} {rd : Bool} {fn : FuncId} {Q : Exit → Go.Act → World → Prop} {a : Go.Act} {w : World} {b : Frame} {k : List Item} {cs : List Frame}

theorem stepX_skip : step P (lone (atX b a (.code .skip :: k)) cs w) = .next (lone (atX b a k) cs w) := step_lone_go (by simp [stepG, stepG.exec, atX])
theorem stepX_inBlock {id : Nat} : step P (lone (atX b a (.inBlock id :: k)) cs w) = .next (lone (atX b a k) cs w) := step_lone_go (by simp [stepG, stepG.exec, atX])
theorem stepX_label {l : Nat} : step P (lone (atX b a (.code (.label l) :: k)) cs w) = .next (lone (atX b a k) cs w) := step_lone_go (by simp [stepG, stepG.exec, atX])
theorem stepX_scope {c : Code} : step P (lone (atX b a (.code (.scope c) :: k)) cs w) = .next (lone (atX b a (.code c :: .inScope c :: k)) cs w) := step_lone_go (by simp [stepG, stepG.exec, atX])
theorem stepX_inScope {c : Code} : step P (lone (atX b a (.inScope c :: k)) cs w) = .next (lone (atX b a k) cs w) := step_lone_go (by simp [stepG, stepG.exec, atX])
theorem stepX_seq {x y : Code} : step P (lone (atX b a (.code (.seq x y) :: k)) cs w) = .next (lone (atX b a (.code x :: .code y :: k)) cs w) := step_lone_go (by simp [stepG, stepG.exec, atX])
theorem stepX_cond {c : Operand} {x y : Code} {t : Bool} (h : a.eval c = .bool t) : step P (lone (atX b a (.code (.cond c x y) :: k)) cs w) = .next (lone (atX b a (.code (if t then x else y) :: k)) cs w) :=
  step_lone_go (by
    have := eval_atX b a (.code (.cond c x y) :: k) c
    simp only [atX] at this
    simp [stepG, stepG.exec, atX, this, h])
theorem stepX_block {id : Nat} {c : Code} : step P (lone (atX b a (.code (.block id c) :: k)) cs w) = .next (lone (atX b a (.code c :: .inBlock id :: k)) cs w) := step_lone_go (by simp [stepG, stepG.exec, atX])
theorem stepX_loop {c : Code} : step P (lone (atX b a (.code (.loop c) :: k)) cs w) = .next (lone (atX b a (.code c :: .inLoop c :: k)) cs w) := step_lone_go (by simp [stepG, stepG.exec, atX])
theorem stepX_inLoop {c : Code} : step P (lone (atX b a (.inLoop c :: k)) cs w) = .next (lone (atX b a (.code c :: .inLoop c :: k)) cs w) := step_lone_go (by simp [stepG, stepG.exec, atX])
theorem stepX_exit {id : Nat} {k' : List Item} (h : exitTo id k = some k') : step P (lone (atX b a (.code (.exit id) :: k)) cs w) = .next (lone (atX b a k') cs w) := step_lone_go (by simp [stepG, stepG.exec, atX, h])
theorem stepX_region {id : Nat} {ops : Array Oper} : step P (lone (atX b a (.code (.region id ops false) :: k)) cs w) = .next (lone (atX b a (.inRegion ops (List.range ops.size) :: k)) cs w) :=
  step_lone_go (by simp [stepG, stepG.exec, atX])
theorem stepX_region_draw {id : Nat} {ops : Array Oper} : step P (lone (atX b a (.code (.region id ops true) :: k)) cs w) =
      .next (lone (atX b a (.inRegion ops (Region.schedule (P.follows .mixedOrders) ops (w.tape w.drawn (.order b.fn id))) :: k)) cs { w with drawn := w.drawn + 1 }) :=
  step_lone_go (by simp [stepG, stepG.exec, atX, choose, Sem.run, Question.forced, Question.cut])
theorem stepX_region_end {ops : Array Oper} : step P (lone (atX b a (.inRegion ops [] :: k)) cs w) = .next (lone (atX b a k) cs w) := step_lone_go (by simp [stepG, stepG.exec, atX])
theorem finish_atX (b : Frame) (a : Go.Act) (ops : Array Oper) (i : Nat) (rest : List Nat) (k : List Item) (v : Value) :
    (atX b a (.inRegion ops (i :: rest) :: k)).finish v = atX b (a.put ((ops[i]?).bind (·.dst)) v) (.inRegion ops rest :: k) := by
  cases h : (ops[i]?).bind (·.dst) <;> simp [Frame.finish, atX, Go.Act.put, h]
theorem raise_atX (b : Frame) (a : Go.Act) (todo : List Item) (chain : List PanicEntry) : (atX b a todo).raise chain = { atX b a todo with mode := .panicking chain } := rfl
theorem stepX_op_skip {ops : Array Oper} {i : Nat} {rest : List Nat} (h : ((ops[i]?).map (Region.wanted · (yielded ops a.tmps))).getD false = false) :
    step P (lone (atX b a (.inRegion ops (i :: rest) :: k)) cs w) = .next (lone (atX b (a.put ((ops[i]?).bind (·.dst)) undef) (.inRegion ops rest :: k)) cs w) := by
  rw [← finish_atX]
  exact step_lone_go (by
    have h' := h
    simp only [atX] at *
    simp [stepG, stepG.exec, h'])

theorem wpX_mono {c : Code} {Q' : Exit → Go.Act → World → Prop} (h : Code.wpX P rd fn c Q a w) (hq : ∀ e a w, Q e a w → Q' e a w) : Code.wpX P rd fn c Q' a w :=
  fun b k cs hr => let ⟨e, a', w', q, r⟩ := h b k cs hr; ⟨e, a', w', hq _ _ _ q, r⟩
theorem wpX_skip (h : Q .normal a w) : Code.wpX P rd fn .skip Q a w := fun _ _ _ _ => ⟨.normal, a, w, h, .one stepX_skip⟩
theorem wpX_exit {id : Nat} (h : Q (.exit id) a w) : Code.wpX P rd fn (.exit id) Q a w := fun _ _ _ _ => ⟨.exit id, a, w, h, _, rfl, Steps.refl P _⟩
theorem wpX_ret (h : Q .ret a w) : Code.wpX P rd fn .ret Q a w := fun _ _ _ _ => ⟨.ret, a, w, h, _, Steps.refl P _⟩
theorem wpX_seq {x y : Code} (h : Code.wpX P rd fn x (Exit.then (Code.wpX P rd fn y Q) Q) a w) : Code.wpX P rd fn (.seq x y) Q a w := by
  intro b k cs hr
  obtain ⟨e, a₁, w₁, hq, harr⟩ := h b (.code y :: k) cs hr
  cases e with
  | normal =>
    obtain ⟨e₂, a₂, w₂, hq₂, harr₂⟩ := hq b k cs hr
    exact ⟨e₂, a₂, w₂, hq₂, .of_steps (.head stepX_seq harr) harr₂⟩
  | exit id => exact ⟨_, a₁, w₁, hq, .of_steps (.one stepX_seq) (.pass (x := .code y) rfl (by simp) harr)⟩
  | ret => exact ⟨_, a₁, w₁, hq, .of_steps (.one stepX_seq) (.pass (x := .code y) rfl (by simp) harr)⟩
  | panic ch => exact ⟨_, a₁, w₁, hq, .of_steps (.one stepX_seq) (.pass (x := .code y) rfl (by simp) harr)⟩
  | goto l => exact harr.elim
  | outgrown => exact harr.elim
theorem wpX_cond {c : Operand} {x y : Code} {t : Bool} (hc : a.eval c = .bool t) (h : Code.wpX P rd fn (if t then x else y) Q a w) : Code.wpX P rd fn (.cond c x y) Q a w :=
  fun b k cs hr => let ⟨e, a', w', q, r⟩ := h b k cs hr; ⟨e, a', w', q, .of_steps (.one (stepX_cond hc)) r⟩
theorem wpX_cond_true {c : Operand} {x y : Code} (hc : a.eval c = .bool true) (h : Code.wpX P rd fn x Q a w) : Code.wpX P rd fn (.cond c x y) Q a w := wpX_cond hc h
theorem wpX_cond_false {c : Operand} {x y : Code} (hc : a.eval c = .bool false) (h : Code.wpX P rd fn y Q a w) : Code.wpX P rd fn (.cond c x y) Q a w := wpX_cond hc h
theorem wpX_label {l : Nat} (h : Q .normal a w) : Code.wpX P rd fn (.label l) Q a w := fun _ _ _ _ => ⟨.normal, a, w, h, .one stepX_label⟩
/-- a scope through which the run goes without a jump -/
theorem wpX_scope {c : Code} (h : Code.wpX P rd fn c Q a w) : Code.wpX P rd fn (.scope c) Q a w := by
  intro b k cs hr
  obtain ⟨e, a₁, w₁, hq, harr⟩ := h b (.inScope c :: k) cs hr
  cases e with
  | normal => exact ⟨.normal, a₁, w₁, hq, .head stepX_scope (Steps.trans harr (.one stepX_inScope))⟩
  | exit id =>
    obtain ⟨k1, hk, hs⟩ := harr
    exact ⟨.exit id, a₁, w₁, hq, k1, hk.trans (by simp [exitTo]), .head stepX_scope hs⟩
  | ret => exact ⟨_, a₁, w₁, hq, .of_steps (.one stepX_scope) harr⟩
  | panic ch => exact ⟨_, a₁, w₁, hq, .of_steps (.one stepX_scope) harr⟩
  | goto l => exact harr.elim
  | outgrown => exact harr.elim
theorem wpX_block {id : Nat} {c : Code} (h : Code.wpX P rd fn c (Exit.inBlock id Q) a w) : Code.wpX P rd fn (.block id c) Q a w := by
  intro b k cs hr
  obtain ⟨e, a₁, w₁, hq, harr⟩ := h b (.inBlock id :: k) cs hr
  cases e with
  | normal => exact ⟨.normal, a₁, w₁, hq, .head stepX_block (Steps.trans harr (.one stepX_inBlock))⟩
  | exit id' =>
    obtain ⟨k1, hk, hs⟩ := harr
    by_cases hid : id' = id
    · simp only [Exit.inBlock, hid, if_true] at hq
      subst hid
      have hk' : exitTo id' k1 = some k := by rw [hk]; simp [exitTo]
      exact ⟨.normal, a₁, w₁, hq, .head stepX_block (Steps.trans hs (.one (stepX_exit hk')))⟩
    · simp only [Exit.inBlock, hid, if_false] at hq
      refine ⟨.exit id', a₁, w₁, hq, k1, ?_, .head stepX_block hs⟩
      have : (id == id') = false := by simp; exact fun h => hid h.symm
      rw [hk]; simp [exitTo, this]
  | ret => exact ⟨_, a₁, w₁, hq, .of_steps (.one stepX_block) harr⟩
  | panic ch => exact ⟨_, a₁, w₁, hq, .of_steps (.one stepX_block) harr⟩
  | goto l => exact harr.elim
  | outgrown => exact harr.elim

/-- some rounds of a loop at most -/
def roundsX (P : Program) (rd : Bool) (fn : FuncId) (c : Code) (Q : Exit → Go.Act → World → Prop) : Nat → Go.Act → World → Prop
  | 0, _, _ => False
  | n + 1, a, w => Code.wpX P rd fn c (Exit.then (roundsX P rd fn c Q n) Q) a w
theorem wpX_loop_rounds {c : Code} (n : Nat) (h : roundsX P rd fn c Q n a w) : Code.wpX P rd fn (.loop c) Q a w := by
  intro b k cs hr
  have key : ∀ n a w, roundsX P rd fn c Q n a w → ∃ e a' w', Q e a' w' ∧ ArrX P (lone (atX b a (.code c :: .inLoop c :: k)) cs w) b k cs e a' w' := by
    intro n
    induction n with
    | zero => intro a w h; exact h.elim
    | succ n ih =>
      intro a w h
      obtain ⟨e, a₁, w₁, hq, harr⟩ := h b (.inLoop c :: k) cs hr
      cases e with
      | normal =>
        obtain ⟨e₂, a₂, w₂, hq₂, harr₂⟩ := ih a₁ w₁ hq
        exact ⟨e₂, a₂, w₂, hq₂, .of_steps (Steps.trans harr (.one stepX_inLoop)) harr₂⟩
      | exit id => exact ⟨_, a₁, w₁, hq, .pass (x := .inLoop c) rfl (by simp) harr⟩
      | ret => exact ⟨_, a₁, w₁, hq, .pass (x := .inLoop c) rfl (by simp) harr⟩
      | panic ch => exact ⟨_, a₁, w₁, hq, .pass (x := .inLoop c) rfl (by simp) harr⟩
      | goto l => exact harr.elim
      | outgrown => exact harr.elim
  obtain ⟨e, a', w', hq, harr⟩ := key n a w h
  exact ⟨e, a', w', hq, .of_steps (.one stepX_loop) harr⟩
end

/-- a call that comes back, or panics -/
def Calls' (P : Program) (f : FuncId) (args : Array Value) (w : World) (R : Ending → World → Prop) : Prop :=
  Calls P f args w fun e w' => (match e with | .outgrown => False | _ => True) ∧ R e w'
/-- a round of a loop over a function: it comes back with a value, or panics -/
def RoundX (P : Program) (l : Nat) (f : FuncId) (tmps : Array Value) (assign body : Code) (w : World) (R : Ending → World → Prop) : Prop :=
  ∀ (c : Frame) (cs : List Frame), c.mode = .run → ∃ e w', R e w' ∧ match e with
    | .returned v => Steps P (lone (Frame.round l f tmps assign body .normal) (c :: cs) w) (lone (c.finish v) cs w')
    | .panicked chain => Steps P (lone (Frame.round l f tmps assign body .normal) (c :: cs) w) (lone (c.raise chain) cs w')
    | .outgrown => False
theorem Calls'.mono {P : Program} {f : FuncId} {args : Array Value} {w : World} {R R' : Ending → World → Prop} (h : Calls' P f args w R) (hr : ∀ e w', R e w' → R' e w') : Calls' P f args w R' :=
  Calls.mono h fun e w' ⟨h1, h2⟩ => ⟨h1, hr e w' h2⟩
theorem RoundX.mono {P : Program} {l : Nat} {f : FuncId} {tmps : Array Value} {assign body : Code} {w : World} {R R' : Ending → World → Prop} (h : RoundX P l f tmps assign body w R) (hr : ∀ e w', R e w' → R' e w') : RoundX P l f tmps assign body w R' :=
  fun c cs hm => let ⟨e, w', r, s⟩ := h c cs hm; ⟨e, w', hr _ _ r, s⟩
/-- what becomes of an operation by what its run is -/
def Oper.uponX (P : Program) (rd : Bool) (o : Oper) (a : Go.Act) (next : Go.Act → World → Prop) (Q : Exit → Go.Act → World → Prop) : Result Next → Prop
  | .ok (.value v) w' => next (a.put o.dst v) w'
  | .ok .skip w' => next (a.put o.dst undef) w'
  | .ok (.defer d) w' => rd = false ∧ next ({ a with defers := d :: a.defers }.put o.dst undef) w'
  | .ok (.enter f args) w' => Calls' P f args w' fun
      | .returned v, w'' => next (a.put o.dst v) w''
      | .panicked chain, w'' => Q (.panic chain) a w''
      | .outgrown, _ => False
  | .ok (.round l f tmps assign body) w' => RoundX P l f tmps assign body w' fun
      | .returned v, w'' => next (a.put o.dst v) w''
      | .panicked chain, w'' => Q (.panic chain) a w''
      | .outgrown, _ => False
  | .halt (.panic v) w' => Q (.panic [{ v, recovered := false }]) a w'
  | _ => False
section
variable {P : Program} {rd : Bool} {o : Oper} {a : Go.Act} {next : Go.Act → World → Prop} {Q : Exit → Go.Act → World → Prop} {w : World} {ops : Array Oper}
theorem Oper.uponX_mono {K K' : Go.Act → World → Prop} (h : ∀ a w, K a w → K' a w) : ∀ {r : Result Next}, Oper.uponX P rd o a K Q r → Oper.uponX P rd o a K' Q r := by
  intro r hh
  cases r with
  | ok n w' =>
    cases n <;> simp only [Oper.uponX] at hh ⊢ <;>
      first
        | exact h _ _ hh
        | exact ⟨hh.1, h _ _ hh.2⟩
        | exact Calls'.mono hh (fun e w'' he => by cases e <;> first | exact h _ _ he | exact he)
        | exact RoundX.mono hh (fun e w'' he => by cases e <;> first | exact h _ _ he | exact he)
  | halt x w' => cases x <;> simp only [Oper.uponX] at hh ⊢ <;> exact hh
def wpOpX (P : Program) (rd : Bool) (ops : Array Oper) (Q : Exit → Go.Act → World → Prop) (i : Nat) (K : Go.Act → World → Prop) (a : Go.Act) (w : World) : Prop :=
  match ops[i]? with
  | none => K a w
  | some o => if Region.wanted o (yielded ops a.tmps) then Oper.uponX P rd o a K Q ((execOp a.eval o).run P w) else K (a.put o.dst undef) w
def wpOpsX (P : Program) (rd : Bool) (ops : Array Oper) (Q : Exit → Go.Act → World → Prop) : List Nat → Go.Act → World → Prop
  | [], a, w => Q .normal a w
  | i :: rest, a, w => wpOpX P rd ops Q i (wpOpsX P rd ops Q rest) a w
theorem wpOpX_mono {i : Nat} {K K' : Go.Act → World → Prop} (h : ∀ a w, K a w → K' a w) (hh : wpOpX P rd ops Q i K a w) : wpOpX P rd ops Q i K' a w := by
  unfold wpOpX at *
  split
  · exact h _ _ (by simpa [*] using hh)
  · rename_i o ho
    simp only [ho] at hh
    split
    · rename_i hw; simp only [hw, if_true] at hh; exact Oper.uponX_mono h hh
    · rename_i hw; simp only [hw] at hh; exact h _ _ hh
theorem stepGX_op {b : Frame} {k : List Item} {cs : List Frame} {i : Nat} {rest : List Nat} (ho : ops[i]? = some o) (hw : Region.wanted o (yielded ops a.tmps) = true) (hd : b.roundOf = none ∨ ∀ c, o.op ≠ .defer c) :
    stepG P true { frame := atX b a (.inRegion ops (i :: rest) :: k), callers := cs, status := .running, dying := none } w =
      stepG.apply P true (atX b a (.inRegion ops (i :: rest) :: k)) cs none (execOp a.eval o) w := by
  have he := eval_atX' b a (.inRegion ops (i :: rest) :: k)
  simp only [atX] at he
  simp only [stepG, stepG.exec, stepG.oper, Frame.oper?, atX, ho, Option.map_some, hw, Option.getD_some, if_true, he]
  split
  · rename_i l c h1 h2
    rcases hd with hd | hd
    · rw [hd] at h1; cases h1
    · exact absurd h2 (hd c)
  · rfl
end
/-- the frame of a call whose parts are as kept -/
theorem lone_run {b : Frame} {a : Go.Act} {todo : List Item} : (atX b a todo).mode = .run := rfl

theorem wp_opsX {P : Program} {rd : Bool} {ops : Array Oper} {Q : Exit → Go.Act → World → Prop} (hnd : rd = true → ∀ (i : Nat) (o : Oper), ops[i]? = some o → ∀ c, o.op ≠ .defer c) (l : List Nat) :
    ∀ (a : Go.Act) (w : World), wpOpsX P rd ops Q l a w → ∀ (b : Frame) (k : List Item) (cs : List Frame), (rd = false → b.roundOf = none) →
      ∃ e a' w', Q e a' w' ∧ ArrX P (lone (atX b a (.inRegion ops l :: k)) cs w) b k cs e a' w' := by
  induction l with
  | nil => exact fun a w h b k cs _ => ⟨.normal, a, w, h, .one stepX_region_end⟩
  | cons i rest ih =>
    intro a w h b k cs hrd
    simp only [wpOpsX, wpOpX] at h
    cases ho : ops[i]? with
    | none =>
      simp only [ho] at h
      obtain ⟨e, a', w', hq, harr⟩ := ih a w h b k cs hrd
      have hs := stepX_op_skip (P := P) (b := b) (a := a) (k := k) (cs := cs) (w := w) (ops := ops) (i := i) (rest := rest) (by simp [ho])
      simp only [ho, Option.bind_none, Go.Act.put] at hs
      exact ⟨e, a', w', hq, .of_steps (.one hs) harr⟩
    | some o =>
      simp only [ho] at h
      by_cases hw : Region.wanted o (yielded ops a.tmps) = true
      · simp only [hw, if_true] at h
        have hnd' : b.roundOf = none ∨ ∀ c, o.op ≠ .defer c := by
          cases rd with
          | false => exact .inl (hrd rfl)
          | true => exact .inr (hnd rfl i o ho)
        have hg := stepGX_op (P := P) (b := b) (k := k) (cs := cs) (w := w) (rest := rest) ho hw hnd'
        have hfin : ∀ v, (atX b a (.inRegion ops (i :: rest) :: k)).finish v = atX b (a.put o.dst v) (.inRegion ops rest :: k) := by
          intro v; rw [finish_atX, ho]; rfl
        generalize hr : (execOp a.eval o).run P w = r at h
        unfold Oper.uponX at h
        split at h
        · rename_i v w'
          obtain ⟨e, a', w'', hq, harr⟩ := ih _ _ h b k cs hrd
          refine ⟨e, a', w'', hq, .of_steps (.one (step_lone_go ?_)) harr⟩
          rw [hg, ← hfin]; simp [stepG.apply, hr]
        · rename_i w'
          obtain ⟨e, a', w'', hq, harr⟩ := ih _ _ h b k cs hrd
          refine ⟨e, a', w'', hq, .of_steps (.one (step_lone_go ?_)) harr⟩
          rw [hg, ← hfin]; simp [stepG.apply, hr]
        · rename_i d w'
          obtain ⟨e, a', w'', hq, harr⟩ := ih _ _ h.2 b k cs hrd
          refine ⟨e, a', w'', hq, .of_steps (.one (step_lone_go ?_)) harr⟩
          have : ({ atX b a (.inRegion ops (i :: rest) :: k) with defers := d :: a.defers } : Frame).finish undef =
              atX b ({ a with defers := d :: a.defers }.put o.dst undef) (.inRegion ops rest :: k) := by
            have := finish_atX b { a with defers := d :: a.defers } ops i rest k undef
            rw [ho] at this; exact this
          rw [hg]; simp only [stepG.apply, Sem.runT_eq, hr, GStep.bare_after]
          exact congrArg (fun fr => GStep.go { frame := fr, callers := cs, status := .running, dying := none } w') this
        · rename_i f args w'
          obtain ⟨e, w'', fr, ⟨hne, hR⟩, hsteps, _, hleave⟩ := h (atX b a (.inRegion ops (i :: rest) :: k) :: cs)
          have henter : step P (lone (atX b a (.inRegion ops (i :: rest) :: k)) cs w) =
              .next (lone (Frame.enter P f args .normal) (atX b a (.inRegion ops (i :: rest) :: k) :: cs) w') :=
            step_lone_go (by rw [hg]; simp [stepG.apply, hr, atX])
          cases e with
          | returned v =>
            obtain ⟨e, a', w₃, hq, harr⟩ := ih _ _ hR b k cs hrd
            refine ⟨e, a', w₃, hq, .of_steps (.head henter (Steps.trans hsteps (.one ?_))) harr⟩
            rw [← hfin]; exact step_leave_returned hleave
          | panicked chain =>
            refine ⟨.panic chain, a, w'', hR, .inRegion ops (i :: rest) :: k, .head henter (Steps.trans hsteps (.one ?_))⟩
            rw [← raise_atX]; exact step_leave_panicked hleave
          | outgrown => exact hne.elim
        · rename_i l f tmps assign body w'
          obtain ⟨e, w'', hR, hsteps⟩ := h (atX b a (.inRegion ops (i :: rest) :: k)) cs rfl
          have henter : step P (lone (atX b a (.inRegion ops (i :: rest) :: k)) cs w) =
              .next (lone (Frame.round l f tmps assign body .normal) (atX b a (.inRegion ops (i :: rest) :: k) :: cs) w') :=
            step_lone_go (by rw [hg]; simp [stepG.apply, hr, atX])
          cases e with
          | returned v =>
            obtain ⟨e, a', w₃, hq, harr⟩ := ih _ _ hR b k cs hrd
            refine ⟨e, a', w₃, hq, .of_steps (.head henter ?_) harr⟩
            rw [← hfin]; exact hsteps
          | panicked chain =>
            refine ⟨.panic chain, a, w'', hR, .inRegion ops (i :: rest) :: k, .head henter ?_⟩
            rw [← raise_atX]; exact hsteps
          | outgrown => exact hsteps.elim
        · rename_i v w'
          refine ⟨_, a, w', h, .inRegion ops (i :: rest) :: k, .one (step_lone_go ?_)⟩
          rw [hg, ← raise_atX]; simp [stepG.apply, hr]
        · exact h.elim
      · simp only [hw, if_false, Bool.false_eq_true] at h
        obtain ⟨e, a', w', hq, harr⟩ := ih _ _ h b k cs hrd
        have hs := stepX_op_skip (P := P) (b := b) (a := a) (k := k) (cs := cs) (w := w) (ops := ops) (i := i) (rest := rest) (by simp [ho]; simpa using hw)
        simp only [ho, Option.bind_some] at hs
        exact ⟨e, a', w', hq, .of_steps (.one hs) harr⟩
/-- no operation of a region is a defer statement -/
def noDefer (ops : Array Oper) : Bool := ops.toList.all fun o => match o.op with | .defer _ => false | _ => true
theorem noDefer_spec {ops : Array Oper} (h : noDefer ops = true) (i : Nat) (o : Oper) (ho : ops[i]? = some o) (c : Call) : o.op ≠ .defer c := by
  intro e
  have hm : o ∈ ops.toList := by rw [← Array.getElem?_toList] at ho; exact List.mem_of_getElem? ho
  have := List.all_eq_true.1 h o hm
  simp [e] at this
theorem wpX_region {P : Program} {rd : Bool} {fn : FuncId} {id : Nat} {ops : Array Oper} {Q : Exit → Go.Act → World → Prop} {a : Go.Act} {w : World} (hnd : rd = true → noDefer ops = true)
    (h : wpOpsX P rd ops Q (List.range ops.size) a w) : Code.wpX P rd fn (.region id ops false) Q a w :=
  fun b k cs hr => let ⟨e, a', w', q, r⟩ := wp_opsX (fun h i o ho c => noDefer_spec (hnd h) i o ho c) _ a w h b k cs hr.1; ⟨e, a', w', q, .of_steps (.one stepX_region) r⟩

def wpAnyX (P : Program) (rd : Bool) (ops : Array Oper) (Q : Exit → Go.Act → World → Prop) : Nat → Array Bool → Go.Act → World → Prop
  | 0, listed, a, w => Region.ready .any ops listed = [] ∧ Q .normal a w
  | fuel + 1, listed, a, w =>
    (Region.ready .any ops listed = [] → Q .normal a w) ∧
    ∀ i ∈ Region.ready .any ops listed, wpOpX P rd ops Q i (wpAnyX P rd ops Q fuel (listed.setIfInBounds i true)) a w
section
variable {P : Program} {rd : Bool} {ops : Array Oper} {Q : Exit → Go.Act → World → Prop}
theorem wpAnyX_sound : ∀ (fuel t : Nat) (listed : Array Bool) (a : Go.Act) (w : World), wpAnyX P rd ops Q fuel listed a w →
    wpOpsX P rd ops Q (Region.linearise.go .any ops fuel t listed []) a w := by
  intro fuel
  induction fuel with
  | zero => intro t listed a w h; simpa [Region.linearise.go, wpOpsX] using h.2
  | succ fuel ih =>
    intro t listed a w h
    obtain ⟨h₀, h₁⟩ := h
    simp only [Region.linearise.go]
    change wpOpsX P rd ops Q (match (Region.ready .any ops listed)[t % (Region.ready .any ops listed).length]? with
      | some i => Region.linearise.go .any ops fuel (t / (Region.ready .any ops listed).length) (listed.setIfInBounds i true) [i]
      | none => [].reverse) a w
    cases hi : (Region.ready .any ops listed)[t % (Region.ready .any ops listed).length]? with
    | none =>
      have hnil : Region.ready .any ops listed = [] := by
        cases hr : Region.ready .any ops listed with
        | nil => rfl
        | cons x xs =>
          rw [hr] at hi
          have hlt : t % (x :: xs).length < (x :: xs).length := Nat.mod_lt _ (by simp)
          simp at hi
          simp at hlt
          omega
      simpa [wpOpsX] using h₀ hnil
    | some i =>
      simp only []
      rw [linearise_go_acc, List.reverse_singleton, List.singleton_append]
      exact wpOpX_mono (fun a w => ih _ _ a w) (h₁ i (List.mem_of_getElem? hi))
theorem wpX_region_any {fn : FuncId} {id : Nat} {a : Go.Act} {w : World} (hm : P.follows .mixedOrders = true) (hnd : rd = true → noDefer ops = true)
    (h : wpAnyX P rd ops Q ops.size (Array.replicate ops.size false) a { w with drawn := w.drawn + 1 }) : Code.wpX P rd fn (.region id ops true) Q a w := by
  intro b k cs hr
  have hl : wpOpsX P rd ops Q (Region.schedule (P.follows .mixedOrders) ops (w.tape w.drawn (.order b.fn id))) a { w with drawn := w.drawn + 1 } := by
    simp only [Region.schedule, hm, Bool.true_or, if_true]
    exact wpAnyX_sound ops.size _ _ a _ h
  obtain ⟨e, a', w', q, r⟩ := wp_opsX (fun h i o ho c => noDefer_spec (hnd h) i o ho c) _ a _ hl b k cs hr.1
  exact ⟨e, a', w', q, .of_steps (.one stepX_region_draw) r⟩
end
end V
end Go.Proofs.Ytgchccljmjmibaa
/- The walk of code in any frame, second part: a loop over a function, its rounds, and a function that leaves. Plain rules over the machine's steps; no program in sight. -/
namespace Go.Proofs.Ytgchccljmjmibaa
open Go.RowKit
namespace V

section
variable {P : Program} {fn : FuncId} {Q : Exit → Go.Act → World → Prop} {a : Go.Act} {w : World}

/-- the world in which a loop over a function begins -/
def loopW (w : World) (fn : FuncId) (tmps : Array Value) (ps : Array Tmp) (assign body : Code) : World :=
  (w.alloc (.deferred (some []))).alloc (.loop { state := .ready, pending := none, fn, tmps, params := ps, assign, body, defers := w.heap.size })
theorem wpX_rangeFunc {g : Operand} {ps : Array Tmp} {assign body : Code} {gf : FuncId} {first cap : Array Value} (hg : a.eval g = .func (.func gf) first cap)
    (hc : (callFunc gf (first ++ #[.func (.yield (w.heap.size + 1)) #[] #[]] ++ cap)).run P (loopW w fn a.tmps ps assign body) = .ok (.enter gf (first ++ #[.func (.yield (w.heap.size + 1)) #[] #[]] ++ cap)) (loopW w fn a.tmps ps assign body))
    (h : Calls' P gf (first ++ #[.func (.yield (w.heap.size + 1)) #[] #[]] ++ cap) (loopW w fn a.tmps ps assign body) fun e w3 => match e with
      | .returned _ => ∃ L W, w3.heap[w.heap.size + 1]? = some (.loop L) ∧ L.state ≠ .busy ∧ W = w3.putObj (w.heap.size + 1) (.loop { L with state := .exhausted }) ∧ match L.pending with
        | none => Q .normal { a with defers := { target := .collected w.heap.size, args := #[] } :: a.defers } W
        | some .ret => Q .ret { a with defers := { target := .collected w.heap.size, args := #[] } :: a.defers } W
        | some (.exit id) => Q (.exit id) { a with defers := { target := .collected w.heap.size, args := #[] } :: a.defers } W
        | _ => False
      | .panicked ch => Q (.panic ch) { a with defers := { target := .collected w.heap.size, args := #[] } :: a.defers } w3
      | .outgrown => False) :
    Code.wpX P false fn (.rangeFunc g ps assign body) Q a w := by
  intro b k cs hr
  have hro := hr.1 rfl
  have hfn := hr.2
  have s1 := stepR_rangeFunc (P := P) (b := b) (a := a) (k := k) (cs := cs) (w := w) (g := g) (ps := ps) (assign := assign) (body := body) (l := w.heap.size + 1) (mark := [{ target := .collected w.heap.size, args := #[] }])
    (w₁ := loopW w fn a.tmps ps assign body) (w₁' := loopW w fn a.tmps ps assign body) (w₂ := loopW w fn a.tmps ps assign body) (d := { target := .fn (.func gf) cap, args := first ++ #[.func (.yield (w.heap.size + 1)) #[] #[]] }) (f := gf) (args := first ++ #[.func (.yield (w.heap.size + 1)) #[] #[]] ++ cap)
    (by rw [hro, hfn]; exact run_enterLoop_outer _ _ _ _ _) (by
      have hy : a.eval (.const (.func (.yield (w.heap.size + 1)) #[] #[])) = .func (.yield (w.heap.size + 1)) #[] #[] := rfl
      simp only [resolve, hg, Deferred.ofValue, List.map_toArray, List.map_cons, List.map_nil, hy]; rfl) (by simp only [invoke]; exact hc)
  obtain ⟨e, w3, fr, ⟨hne, hR⟩, hsteps, _, hleave⟩ := h (b.atR { a with defers := [{ target := .collected w.heap.size, args := #[] }] ++ a.defers } (.inRangeFunc (w.heap.size + 1) :: k) :: cs)
  cases e with
  | returned v =>
    obtain ⟨L, W, hL, hst, hW, hq⟩ := hR
    have s2 := step_leave_returned (cs := cs) (c := b.atR { a with defers := [{ target := .collected w.heap.size, args := #[] }] ++ a.defers } (.inRangeFunc (w.heap.size + 1) :: k)) hleave
    rw [finish_atR_inRangeFunc] at s2
    have s3 := stepR_endRangeFunc (P := P) (b := b) (a := { a with defers := [{ target := .collected w.heap.size, args := #[] }] ++ a.defers }) (k := k) (cs := cs) (run_endLoop (P := P) hL hst)
    have s4 := Steps.head s1 (Steps.trans hsteps (.head s2 (.one s3)))
    rw [← hW] at s4
    cases hp : L.pending with
    | none =>
      rw [hp] at hq s4
      exact ⟨.normal, _, _, hq, s4⟩
    | some c =>
      rw [hp] at hq s4
      cases c with
      | ret => exact ⟨.ret, _, _, hq, k, s4⟩
      | exit id => exact ⟨.exit id, _, _, hq, k, rfl, s4⟩
      | _ => exact hq.elim
  | panicked ch =>
    have s2 := step_leave_panicked (cs := cs) (c := b.atR { a with defers := [{ target := .collected w.heap.size, args := #[] }] ++ a.defers } (.inRangeFunc (w.heap.size + 1) :: k)) hleave
    exact ⟨.panic ch, _, _, hR, .inRangeFunc (w.heap.size + 1) :: k, Steps.head s1 (Steps.trans hsteps (.one s2))⟩
  | outgrown => exact hne.elim

/-- what a round comes to, by how its body is left -/
def roundEnd (l : Nat) (R : Ending → World → Prop) : Exit → Go.Act → World → Prop
  | .normal, _, w => ∃ L, w.heap[l]? = some (.loop L) ∧ R (.returned (.bool true)) (w.putObj l (.loop { L with state := .ready, pending := none }))
  | .ret, _, w => ∃ L, w.heap[l]? = some (.loop L) ∧ R (.returned (.bool false)) (w.putObj l (.loop { L with state := .done, pending := some .ret }))
  | .exit id, _, w => ∃ L, w.heap[l]? = some (.loop L) ∧ R (.returned (.bool false)) (w.putObj l (.loop { L with state := .done, pending := some (.exit id) }))
  | .panic ch, a, w => a.defers = [] ∧ R (.panicked ch) w
  | _, _, _ => False
theorem roundX_of {l : Nat} {f : FuncId} {tmps : Array Value} {assign body : Code} {R : Ending → World → Prop} (hf : ∃ g, P.funcs[f]? = some g)
    (h : Code.wpX P true f assign (fun e a1 w1 => e = .normal ∧ ∃ L, w1.heap[l]? = some (.loop L) ∧ L.state = .ready ∧ Code.wpX P true f body (roundEnd l R) a1 (w1.putObj l (.loop { L with state := .busy }))) { tmps := tmps, defers := [] } w) :
    RoundX P l f tmps assign body w R := by
  intro c cs hm
  let b : Frame := { (default : Frame) with fn := f, kind := .normal, roundOf := some l }
  have hb0 : Frame.round l f tmps assign body .normal = atX b { tmps := tmps, defers := [] } [.code assign, .beginRound, .code body] := by
    simp [Frame.round, atX, b]
  obtain ⟨e, a1, w1, ⟨rfl, L, hL, hst, hbody⟩, s1⟩ := h b [.beginRound, .code body] (c :: cs) ⟨by simp, rfl⟩
  rw [← hb0] at s1
  have s2 := stepR_beginRound (P := P) (b := b) (a := a1) (k := [.code body]) (cs := c :: cs) rfl (run_beginRound (P := P) hL hst)
  obtain ⟨e, a2, w2, hq, harr⟩ := hbody b [] (c :: cs) ⟨by simp, rfl⟩
  have s12 := Steps.trans s1 (.one s2)
  cases e with
  | normal =>
    obtain ⟨L2, hL2, hR⟩ := hq
    exact ⟨_, _, hR, Steps.trans s12 (Steps.trans harr (.one (stepR_round_end (P := P) (b := b) rfl rfl (run_endRound (P := P) none hL2))))⟩
  | ret =>
    obtain ⟨L2, hL2, hR⟩ := hq
    obtain ⟨k1, s3⟩ := harr
    exact ⟨_, _, hR, Steps.trans s12 (Steps.trans s3 (.one (stepR_round_ret (P := P) (b := b) rfl rfl (run_endRound (P := P) (some .ret) hL2))))⟩
  | exit id =>
    obtain ⟨L2, hL2, hR⟩ := hq
    obtain ⟨k1, hk, s3⟩ := harr
    exact ⟨_, _, hR, Steps.trans s12 (Steps.trans s3 (.one (stepR_round_exit (P := P) (b := b) rfl rfl (by rw [hk]; rfl) (run_endRound (P := P) (some (.exit id)) hL2))))⟩
  | panic ch =>
    obtain ⟨hd, hR⟩ := hq
    obtain ⟨todo, s3⟩ := harr
    obtain ⟨g, hg⟩ := hf
    refine ⟨.panicked ch, w2, hR, Steps.trans s12 (Steps.trans s3 (.one (step_lone_go ?_)))⟩
    simp [stepG, unwind, Frame.catches, atX, hd, b, hg]
  | goto l => exact harr.elim
  | outgrown => exact harr.elim

/-- where a function's frame stands when its code has been left -/
def Left (P : Program) (m : Machine) (b : Frame) (cs : List Frame) : Exit → Go.Act → World → Prop
  | .normal, a, w | .ret, a, w => ∃ todo, Steps P m (lone { atX b a todo with mode := .returning } cs w)
  | .panic ch, a, w => ∃ todo, Steps P m (lone { atX b a todo with mode := .panicking ch } cs w)
  | _, _, _ => False
theorem left_of_wpX {c : Code} {tmps : Array Value} {cs : List Frame} {b : Frame} (hb : b.roundOf = none) (hbf : b.fn = fn) (h : Code.wpX P false fn c Q { tmps := tmps, defers := [] } w) (hx : ∀ id a w, ¬ Q (.exit id) a w) :
    ∃ e a' w', Q e a' w' ∧ Left P (lone (atX b { tmps := tmps, defers := [] } [.code c]) cs w) b cs e a' w' := by
  obtain ⟨e, a', w', hq, harr⟩ := h b [] cs ⟨fun _ => hb, hbf⟩
  have he : ∀ (todo : List Item), (todo = [] ∨ ∃ k1, todo = .code .ret :: k1) → step P (lone (atX b a' todo) cs w') = .next (lone { atX b a' todo with mode := .returning } cs w') := by
    intro todo ht
    rcases ht with rfl | ⟨k1, rfl⟩ <;> exact step_lone_go (by simp [stepG, stepG.exec, atX, hb])
  cases e with
  | normal => exact ⟨.normal, a', w', hq, [], Steps.trans harr (.one (he _ (.inl rfl)))⟩
  | ret => obtain ⟨k1, hs⟩ := harr; exact ⟨.ret, a', w', hq, _, Steps.trans hs (.one (he _ (.inr ⟨k1, rfl⟩)))⟩
  | panic ch => exact ⟨.panic ch, a', w', hq, harr⟩
  | exit id => exact absurd hq (hx id a' w')
  | goto l => exact harr.elim
  | outgrown => exact harr.elim
end
end V
end Go.Proofs.Ytgchccljmjmibaa
/- A symbolic evaluator for the code of Go functions as the model has it, second edition: values with open numbers; plain data of open length; a heap of the call's own blocks, lists, maps and loops; panics, deferred calls, loops over functions. Definitions alone. -/
namespace Go.Proofs.Ytgchccljmjmibaa
namespace V

/-! codes of plain data, and the data -/
inductive TC where
  | b | i (k : IntKind) | s | sl (c : TC) | st (cs : List TC)
mutual
@[reducible] def TCT : TC → Type
  | .b => Bool
  | .i _ => Int
  | .s => ByteArray
  | .sl c => List (TCT c)
  | .st cs => TCTs cs
@[reducible] def TCTs : List TC → Type
  | [] => Unit
  | c :: cs => TCT c × TCTs cs
end
mutual
def TC.size : TC → Nat
  | .st cs => sizes cs
  | _ => 1
def sizes : List TC → Nat
  | [] => 0
  | c :: cs => c.size + sizes cs
end
mutual
def TC.beq : TC → TC → Bool
  | .b, .b => true
  | .i j, .i k => decide (j = k)
  | .s, .s => true
  | .sl c, .sl d => c.beq d
  | .st cs, .st ds => beqs cs ds
  | _, _ => false
def beqs : List TC → List TC → Bool
  | [], [] => true
  | c :: cs, d :: ds => c.beq d && beqs cs ds
  | _, _ => false
end
mutual
theorem TC.beq_eq : ∀ (c d : TC), c.beq d = true → c = d
  | .b, d, h => by cases d <;> simp [TC.beq] at h ⊢
  | .i j, d, h => by cases d <;> simp [TC.beq] at h ⊢; exact h
  | .s, d, h => by cases d <;> simp [TC.beq] at h ⊢
  | .sl c, d, h => by
    cases d <;> simp [TC.beq] at h ⊢
    exact TC.beq_eq c _ h
  | .st cs, d, h => by
    cases d <;> simp [TC.beq] at h ⊢
    exact beqs_eq cs _ h
theorem beqs_eq : ∀ (cs ds : List TC), beqs cs ds = true → cs = ds
  | [], ds, h => by cases ds <;> simp [beqs] at h ⊢
  | c :: cs, ds, h => by
    cases ds with
    | nil => simp [beqs] at h
    | cons d ds =>
      simp only [beqs, Bool.and_eq_true] at h
      rw [TC.beq_eq c d h.1, beqs_eq cs ds h.2]
end
mutual
def dflt : (c : TC) → TCT c
  | .b => false
  | .i _ => (0 : Int)
  | .s => ByteArray.empty
  | .sl _ => []
  | .st cs => dflts cs
def dflts : (cs : List TC) → TCTs cs
  | [] => ()
  | c :: cs => (dflt c, dflts cs)
end
/-- data of one code as data of another one that is the same -/
def castL (c d : TC) (xs : List (TCT c)) : Option (List (TCT d)) := if h : c.beq d = true then some (TC.beq_eq c d h ▸ xs) else none

mutual
def TC.noSl : TC → Bool
  | .sl _ => false
  | .st cs => noSls cs
  | _ => true
def noSls : List TC → Bool
  | [] => true
  | c :: cs => c.noSl && noSls cs
end

inductive AV where
  | bool (b : Bool)
  | int (k : IntKind) (n : Int)
  | ptr (id row st col : Nat)
  | nilp
  | sl (id off st len cap : Nat)
  | val (v : Value)
  | agg (cs : List AV)
  | tup (cs : List AV)
  | fn (f : Fn) (first captured : List AV)
  | ro (c : TC) (xs : List (TCT c))
  | rop (c : TC) (x : TCT c) (col : Nat)
  | own (id : Nat)
  | mp (id : Nat)
  | yld (id : Nat)
  | stp (id : Nat)
  | win (id row st n : Nat)
  | ifc (t : TypeId) (x : AV)
  | top

def minK : IntKind → Int
  | .i8 => -128
  | .i16 => -32768
  | .i32 => -2147483648
  | .i64 => -9223372036854775808
  | _ => 0
def maxK : IntKind → Int
  | .i8 => 127
  | .i16 => 32767
  | .i32 => 2147483647
  | .i64 => 9223372036854775807
  | .u8 => 255
  | .u16 => 65535
  | .u32 => 4294967295
  | .u64 => 18446744073709551615
/-- the number is one of its kind -/
def inK (k : IntKind) (n : Int) : Prop := minK k ≤ n ∧ n ≤ maxK k
def inKB (k : IntKind) (n : Int) : Bool := decide (minK k ≤ n) && decide (n ≤ maxK k)
def ofCell : Value → AV
  | .bool b => .bool b
  | .int k n => bif inKB k n then .int k n else .val (.int k n)
  | .pointer none => .nilp
  | .func f a c => bif a.isEmpty && c.isEmpty then .fn f [] [] else .val (.func f a c)
  | v => .val v
def ofV : Value → AV
  | .agg cs => .agg (cs.toList.map ofCell)
  | v => ofCell v
def one : AV → Bool
  | .bool _ | .int _ _ | .ptr _ _ _ _ | .nilp | .sl _ _ _ _ _ | .fn _ _ _ | .ro _ _ | .rop _ _ _ | .own _ | .mp _ | .yld _ | .stp _ | .win _ _ _ _ | .ifc _ _ => true
  | .val v => v.oneCell'
  | _ => false
def cellsA : AV → Option (List AV)
  | .agg cs => some cs
  | x => bif one x then some [x] else none

structure Blk where
  ty : TypeId
  cs : List AV
/-- a list that is the call's own: elements of a type, by a code -/
structure Arr where
  ty : TypeId
  c : TC
  xs : List (TCT c)
/-- a list that is the call's own, with cells of any kind -/
structure Lt where
  ty : TypeId
  st : Nat
  n : Nat
  cs : List AV
/-- a map that is the call's own -/
structure Mp where
  kc : TC
  vc : TC
  get : TCT kc → Option (TCT vc)
  ents : List (Nat × TCT kc)
/-- a loop over a function -/
structure LoopR where
  tm : Nat → AV
  n : Nat
  fn : FuncId
  params : List Nat
  assign : Code
  body : Code
  st : LoopState
  pend : Option Code
  df : Nat
inductive Ob where
  | blk (b : Blk)
  | arr (A : Arr)
  | mp (M : Mp)
  | lp (r : LoopR)
  | dfr
  | it (t : ByteArray) (pos : Nat)
  | lit (L : Lt)
abbrev Heap := Nat → Option Ob
/-- a call that is deferred, or the mark of a loop over a function -/
inductive DfA where
  | call (f : FuncId) (args captured : List AV)
  | mark (id : Nat)
structure St where
  tm : Nat → AV
  n : Nat
  hp : Heap
  nx : Nat
  df : List DfA
  rd : Bool
/-- how code is left -/
inductive XE where
  | normal
  | exit (id : Nat)
  | ret
  | panic (x : AV)
/-- what a call comes to -/
inductive Out where
  | ret (x : AV)
  | pan (x : AV)

inductive Tree (α : Type) where
  | leaf (a : α)
  | need (p : Prop) (t : Tree α)
  | br (c : Bool) (t e : Tree α)
  | fail
def Tree.sat {α : Type} (R : α → Prop) : Tree α → Prop
  | .leaf a => R a
  | .need p t => p ∧ t.sat R
  | .br c t e => (c = true → t.sat R) ∧ (c = false → e.sat R)
  | .fail => False
def Tree.bind {α β : Type} (t : Tree α) (f : α → Tree β) : Tree β :=
  match t with
  | .leaf a => f a
  | .need p t => .need p (t.bind f)
  | .br c t e => bif c then t.bind f else e.bind f
  | .fail => .fail

/-- one place of a function turned -/
def upd {β : Type} (f : Nat → β) (i : Nat) (x : β) : Nat → β := fun j => bif Nat.beq j i then x else f j

def St.put (s : St) (d : Option Nat) (x : AV) : St :=
  match d with
  | some d => { s with tm := upd s.tm d x }
  | none => s
def St.eval (s : St) : Operand → AV
  | .tmp t => s.tm t
  | .const v => ofV v
  | .global g => .val (.pointer (some ⟨g, 0, none⟩))
  | .func f => .fn (.func f) [] []

def nth {β : Type} : List β → Nat → Option β
  | [], _ => none
  | x :: _, 0 => some x
  | _ :: l, n + 1 => nth l n
def takeA {β : Type} : Nat → List β → List β
  | 0, _ => []
  | _, [] => []
  | n + 1, x :: l => x :: takeA n l
def dropA {β : Type} : Nat → List β → List β
  | 0, l => l
  | _, [] => []
  | n + 1, _ :: l => dropA n l
def setA {β : Type} : List β → Nat → β → List β
  | [], _, _ => []
  | _ :: l, 0, y => y :: l
  | x :: l, n + 1, y => x :: setA l n y
def setsA {β : Type} : List β → Nat → List β → List β
  | cs, _, [] => cs
  | cs, off, v :: vs => setsA (setA cs off v) (off + 1) vs
def lenA {β : Type} : List β → Nat
  | [] => 0
  | _ :: l => lenA l + 1

def assoc {β : Type} : List (Nat × β) → Nat → Option β
  | [], _ => none
  | (k, x) :: l, i => bif Nat.beq k i then some x else assoc l i
def getA {β : Type} : List β → Nat → β → β
  | [], _, d => d
  | x :: _, 0, _ => x
  | _ :: l, n + 1, d => getA l n d

/-! data as cells, and back -/
mutual
def enc : (c : TC) → TCT c → List AV
  | .b, x => [.bool x]
  | .i k, n => [.int k n]
  | .s, x => [.val (.string x)]
  | .sl c, xs => [.ro c xs]
  | .st cs, x => encs cs x
def encs : (cs : List TC) → TCTs cs → List AV
  | [], _ => []
  | c :: cs, (x, y) => enc c x ++ encs cs y
end
def decB : List AV → Option (Bool × List AV)
  | .bool x :: l => some (x, l)
  | _ => none
def decI (k : IntKind) : List AV → Option (Int × List AV)
  | .int j n :: l => bif decide (j = k) then some (n, l) else none
  | _ => none
def decS : List AV → Option (ByteArray × List AV)
  | .val (.string x) :: l => some (x, l)
  | _ => none
def decSl (c : TC) : List AV → Option (List (TCT c) × List AV)
  | .ro d xs :: l => match castL d c xs with
    | some ys => some (ys, l)
    | none => none
  | .val (.slice none 0 0) :: l => some ([], l)
  | _ => none
mutual
def dec : (c : TC) → List AV → Option (TCT c × List AV)
  | .b, l => decB l
  | .i k, l => decI k l
  | .s, l => decS l
  | .sl c, l => decSl c l
  | .st cs, l => decs cs l
def decs : (cs : List TC) → List AV → Option (TCTs cs × List AV)
  | [], l => some ((), l)
  | c :: cs, l => match dec c l with
    | some (x, l') => match decs cs l' with
      | some (y, l'') => some ((x, y), l'')
      | none => none
    | none => none
end
/-- cells as a list of elements -/
def decRows (c : TC) : Nat → List AV → Option (List (TCT c))
  | 0, _ => some []
  | n + 1, l => match dec c l with
    | some (x, l') => match decRows c n l' with
      | some xs => some (x :: xs)
      | none => none
    | none => none
def encA : (c : TC) → TCT c → AV
  | .b, x => .bool x
  | .i k, n => .int k n
  | .s, x => .val (.string x)
  | .sl c, xs => .ro c xs
  | .st cs, x => .agg (encs cs x)
def encAs : (cs : List TC) → TCTs cs → List AV
  | [], _ => []
  | c :: cs, (x, y) => encA c x :: encAs cs y
def decAg (cs : List TC) : AV → Option (TCTs cs)
  | .agg l => match decs cs l with
    | some (x, []) => some x
    | _ => none
  | _ => none
def dec1 (c : TC) (x : AV) : Option (TCT c) :=
  match dec c [x] with
  | some (y, []) => some y
  | _ => none
def decA : (c : TC) → AV → Option (TCT c)
  | .b, x => dec1 .b x
  | .i k, x => dec1 (.i k) x
  | .s, x => dec1 .s x
  | .sl c, x => dec1 (.sl c) x
  | .st cs, x => decAg cs x
def decAs : (cs : List TC) → List AV → Option (TCTs cs)
  | [], [] => some ()
  | c :: cs, x :: l => match decA c x, decAs cs l with
    | some y, some z => some (y, z)
    | _, _ => none
  | _, _ => none
def tupA : List AV → AV
  | [x] => x
  | l => .tup l
def encR (rs : List TC) (y : TCTs rs) : AV := tupA (encAs rs y)
def decR (rs : List TC) (x : AV) : Option (TCTs rs) :=
  match rs, x with
  | [c], x => match decA c x with
    | some y => some (y, ())
    | none => none
  | rs, .tup l => decAs rs l
  | _, _ => none

/-! keys of maps: data without slices and strings -/
mutual
def beqD : (c : TC) → TCT c → TCT c → Bool
  | .b, x, y => (show Bool from x) == y
  | .i _, x, y => (show Int from x) == y
  | .s, x, y => (show ByteArray from x).data.toList == (show ByteArray from y).data.toList
  | .sl _, _, _ => false
  | .st cs, x, y => beqDs cs x y
def beqDs : (cs : List TC) → TCTs cs → TCTs cs → Bool
  | [], _, _ => true
  | c :: cs, x, y => beqD c x.1 y.1 && beqDs cs x.2 y.2
end

mutual
def keyC : TC → Bool
  | .b => true
  | .i _ => true
  | .s => true
  | .sl _ => false
  | .st cs => keyCs cs
def keyCs : List TC → Bool
  | [] => true
  | c :: cs => keyC c && keyCs cs
end

section
variable (P : Program)
/-- the code of a type -/
def tcs (tc : TypeId → Option TC) : List Field → Option (List TC)
  | [] => some []
  | f :: fs => match tc f.type, tcs tc fs with
    | some c, some cs => some (c :: cs)
    | _, _ => none
def tcOf : Nat → TypeId → Option TC
  | 0, _ => none
  | d + 1, t => match P.underlying t with
    | some .bool => some .b
    | some (.int k) => some (.i k)
    | some .string => some .s
    | some (.slice e) => (tcOf d e).map .sl
    | some (.struct fs) => (tcs (tcOf d) fs.toList).map .st
    | some (.array n e) => (tcOf d e).map fun c => .st (List.replicate n c)
    | _ => none
def sizeT (t : TypeId) : Option Nat := (P.info? t).map (·.size)
def bytesT (t : TypeId) : Option Int := (P.info? t).map (fun i => (i.bytes : Int))
def isAggT (t : TypeId) : Option Bool :=
  match P.underlying t with
  | some (.struct _) | some (.array _ _) => some true
  | some _ => some false
  | none => none
def zeroT (t : TypeId) : Option (List AV) :=
  match P.info? t with
  | some i => match i.zero with
    | some z => some (z.cells.toList.map ofCell)
    | none => none
  | none => none
def fillA (place : Nat → Option (Nat × Nat)) : List AV → List (Nat × AV) → Option (List AV)
  | cs, [] => some cs
  | cs, (i, x) :: rest =>
    match place i, cellsA x with
    | some (off, size), some vs => bif Nat.beq (lenA vs) size && Nat.ble (off + lenA vs) (lenA cs) then fillA place (setsA cs off vs) rest else none
    | _, _ => none
def placesA : List Field → Option (List (Nat × Nat))
  | [] => some []
  | f :: fs => match sizeT P f.type, placesA fs with
    | some s, some r => some ((f.offset, s) :: r)
    | _, _ => none
def partA (t : TypeId) (cs : List AV) (off : Nat) : Option AV :=
  match isAggT P t, sizeT P t with
  | some true, some s => bif Nat.ble (off + s) (lenA cs) then some (.agg (takeA s (dropA off cs))) else none
  | some false, _ => nth cs off
  | _, _ => none
def buildA (t : TypeId) (parts : List (Nat × AV)) : Option AV :=
  match zeroT P t, P.underlying t with
  | some z, some (.struct fs) =>
    match placesA P fs.toList with
    | some places => (fillA (nth places) z parts).map .agg
    | none => none
  | some z, some (.array _ e) =>
    match sizeT P e with
    | some s => (fillA (fun i => some (i * s, s)) z parts).map .agg
    | none => none
  | _, _ => none

def eqF (eq : TypeId → AV → AV → Option Bool) : List Field → List AV → List AV → Option Bool
  | [], _, _ => some true
  | f :: fs, xs, ys =>
    bif decide (f.name = "_") then none else
    match partA P f.type xs f.offset, partA P f.type ys f.offset with
    | some a, some b => match eq f.type a b, eqF eq fs xs ys with
      | some p, some q => some (p && q)
      | _, _ => none
    | _, _ => none
def eqI (eq : TypeId → AV → AV → Option Bool) (e : TypeId) (c : Nat) (xs ys : List AV) : List Nat → Option Bool
  | [] => some true
  | i :: is => match partA P e xs (i * c), partA P e ys (i * c) with
    | some a, some b => match eq e a b, eqI eq e c xs ys is with
      | some p, some q => some (p && q)
      | _, _ => none
    | _, _ => none
def eqA : Nat → TypeId → AV → AV → Option Bool
  | 0, _, _, _ => none
  | d + 1, t, x, y =>
    match P.underlying t, x, y with
    | some .bool, .bool a, .bool b => some (a == b)
    | some (.int _), .int k a, .int k' b => bif decide (k = k') then some (a == b) else none
    | some .string, .val (.string a), .val (.string b) => some (a.data.toList == b.data.toList)
    | some (.struct fs), .agg xs, .agg ys => bif P.stoodInHeld t then none else eqF P (eqA d) fs.toList xs ys
    | some (.array n e), .agg xs, .agg ys => match P.info? e with
      | some i => eqI P (eqA d) e i.size xs ys (List.range n)
      | none => none
    | _, _, _ => none

/-- a part's type is an aggregate just if its code is one -/
def aggOk (t : TypeId) : TC → Bool
  | .st cs => match isAggT P t, sizeT P t with
    | some true, some s => Nat.beq s (sizes cs)
    | _, _ => false
  | _ => match isAggT P t with
    | some false => true
    | _ => false
def keyF (key : TypeId → TC → Bool) : List Field → List TC → Nat → Bool
  | [], [], _ => true
  | f :: fs, c :: cs, off => !(decide (f.name = "_")) && (Nat.beq f.offset off && (aggOk P f.type c && (key f.type c && keyF key fs cs (off + c.size))))
  | _, _, _ => false
/-- the type is one of keys, with a code -/
def keyT : Nat → TypeId → TC → Bool
  | 0, _, _ => false
  | d + 1, t, c => match P.underlying t, c with
    | some .bool, .b => true
    | some (.int k), .i k' => decide (k = k')
    | some .string, .s => true
    | some (.struct fs), .st cs => !(P.stoodInHeld t) && keyF P (keyT d) fs.toList cs 0
    | some (.array n e), .st cs => match P.info? e, cs with
      | some i, c :: _ => Nat.beq i.size c.size && (beqs cs (List.replicate n c) && (aggOk P e c && keyT d e c))
      | _, _ => false
    | _, _ => false
/-- a type's zero value, as data -/
def zeroD (t : TypeId) (c : TC) : Option (TCT c) :=
  match (P.info? t).bind (·.zero) with
  | some z => decA c (ofV z)
  | none => none

/-- a list of the call's own, as it reads now -/
def elC (t : TypeId) : Option TC := match P.underlying t with
  | some (.array _ e) => tcOf P 8 e
  | _ => none
/-- the code of the rows of a block: its type's own, or that of its elements -/
def rowC (t : TypeId) (st : Nat) : Option TC := match tcOf P 8 t with
  | some c => bif Nat.beq st c.size then some c else elC P t
  | none => elC P t
def ro1 (hp : Heap) : AV → AV
  | .own id => match hp id with
    | some (.arr A) => .ro A.c A.xs
    | _ => .own id
  | .sl id off st len cap => match hp id with
    | some (.blk b) => match rowC P b.ty st with
      | some c => bif Nat.beq st c.size && Nat.ble (off + len * st) (lenA b.cs) then match decRows c len (takeA (len * st) (dropA off b.cs)) with
          | some xs => .ro c xs
          | none => .sl id off st len cap
        else .sl id off st len cap
      | none => .sl id off st len cap
    | _ => .sl id off st len cap
  | x => x
def toRO (hp : Heap) : AV → AV
  | .agg cs => .agg (cs.map (ro1 P hp))
  | x => ro1 P hp x
/-- the lists' numbers in a value -/
def ids1 : AV → List Nat
  | .own id => [id]
  | .sl id _ _ _ _ => [id]
  | _ => []
def idsOf : AV → List Nat
  | .agg cs => cs.flatMap ids1
  | x => ids1 x
/-- blocks that are not turned any more -/
def drop1 (hp : Heap) : List Nat → Heap
  | [] => hp
  | id :: l => drop1 (upd hp id none) l
/-- functions before whose call the lists that they take stop changing -/
def frz : List Nat := [33]
def frzF (f : Nat) : Bool := frz.any (Nat.beq f)
/-- where a list's head is looked at as a window: the list itself stays -/
def winH : Bool := true
def fzI0 : AV → List Nat
  | .own id => [id]
  | _ => []
def fzIds : AV → List Nat
  | .own id => [id]
  | .agg cs => cs.flatMap fzI0
  | _ => []
/-- a list that stops changing, as it reads from then on -/
def fz1 (hp : Heap) (ids : List Nat) : AV → AV
  | .own id => match hp id with
    | some (.arr A) => bif ids.any (Nat.beq id) then .ro A.c A.xs else .own id
    | _ => .own id
  | x => x
def fzA (hp : Heap) (ids : List Nat) : AV → AV
  | .agg cs => .agg (cs.map (fz1 hp ids))
  | x => fz1 hp ids x
def fzOb (hp : Heap) (ids : List Nat) : Ob → Ob
  | .blk b => .blk ⟨b.ty, b.cs.map (fz1 hp ids)⟩
  | o => o
/-- the objects without some lists: where these stood, they are data -/
def fzH (hp : Heap) (ids : List Nat) : Heap := fun i => (drop1 hp ids i).map (fzOb hp ids)

/-- functions before whose call all lists of numbers in the slots stop changing -/
def frz2 : List Nat := []
/-- lists of numbers -/
def fzInt (hp : Heap) : AV → List Nat
  | .own id => match hp id with
    | some (.arr A) => match A.c with
      | .i _ => [id]
      | _ => []
    | _ => []
  | _ => []
def fzOf (f : Nat) (s : St) (args : List AV) : List Nat := bif frz2.any (Nat.beq f) then args.flatMap fzIds ++ (List.range s.n).flatMap (fun t => fzInt s.hp (s.tm t)) else args.flatMap fzIds

inductive Eff where
  | val (x : AV)
  | load (id row st col n : Nat) (agg : Bool)
  | store (id row st col : Nat) (vs : List AV)
  | alloc (b : Blk) (mk : Nat → AV)
  | list (ty : TypeId) (c : TC) (xs : List (TCT c))
  | listz (ty : TypeId) (c : TC) (xs : List (TCT c))
  | app (ty : TypeId) (bytes st : Nat) (c : Option TC) (dst src : AV)
  | idx (id st : Nat) (n : Int)
  | len (id : Nat)
  | call (f : FuncId) (args : List AV)
  | round (id : Nat) (args : List AV)
  | dfr (d : DfA)
  | panic (x : AV)
  | mapNew (kc vc : TC)
  | mapGet (id : Nat) (kc vc : TC) (z : TCT vc) (k : TCT kc) (ok : Bool)
  | mapSet (id : Nat) (kc vc : TC) (k : TCT kc) (x : TCT vc)
  | mapDel (id : Nat) (kc : TC) (k : TCT kc)
  | mapClr (id : Nat)
  | mapEnt (id : Nat) (kc vc : TC) (z : TCT vc) (k : TCT kc)
  | entSet (id st : Nat) (vc : TC) (x : TCT vc)
  | iter (t : ByteArray)
  | nxt (id : Nat)
  | trunc (id st : Nat) (n : Int)
  | win (id st : Nat) (l : Int) (h : Option Int)
  | copy (id r n r' n' : Nat)
  | test (c : Bool) (a : Eff)
  | alt (c : Bool) (a b : Eff)
  | bad

/-- by a number from 0 on: where it is open, each case by itself -/
def altN (f : Nat → Eff) (n : Int) : Nat → Nat → Eff
  | _, 0 => .bad
  | k, m + 1 => .alt (decide (n = (k : Int))) (f k) (altN f n (k + 1) m)
def altIdx (len : Nat) (n : Int) (f : Nat → Eff) : Eff := bif Nat.ble len 8 then altN f n 0 len else .test (decide (0 ≤ n ∧ n < (len : Int))) (f n.toNat)
def ofOpt : Option AV → Eff
  | some x => .val x
  | none => .bad

def arithA (op : BinOp) (k : IntKind) (x y : Int) : Eff :=
  match op with
  | .add => .val (.int k (k.wrap (x + y)))
  | .sub => .val (.int k (k.wrap (x - y)))
  | .mul => .val (.int k (k.wrap (x * y)))
  | .quo => .test (y != 0) (.val (.int k (k.wrap (x.tdiv y))))
  | .rem => .test (y != 0) (.val (.int k (x.tmod y)))
  | .and => .val (.int k (k.wrap (BitVec.ofInt k.bits x &&& BitVec.ofInt k.bits y).toNat))
  | .or => .val (.int k (k.wrap (BitVec.ofInt k.bits x ||| BitVec.ofInt k.bits y).toNat))
  | .xor => .val (.int k (k.wrap (BitVec.ofInt k.bits x ^^^ BitVec.ofInt k.bits y).toNat))
  | .andNot => .val (.int k (k.wrap (BitVec.ofInt k.bits x &&& ~~~ BitVec.ofInt k.bits y).toNat))
  | .eql => .val (.bool (x == y))
  | .neq => .val (.bool (x != y))
  | .lss => .val (.bool (decide (x < y)))
  | .leq => .val (.bool (decide (x ≤ y)))
  | .gtr => .val (.bool (decide (x > y)))
  | .geq => .val (.bool (decide (x ≥ y)))
  | _ => .bad
def shiftA (op : BinOp) (k : IntKind) (x y : Int) : Eff :=
  match op with
  | .shl => .test (decide (0 ≤ y)) (.val (.int k (k.wrap (x * 2 ^ (min y.toNat k.bits)))))
  | .shr => .test (decide (0 ≤ y)) (.val (.int k (x.fdiv (2 ^ (min y.toNat k.bits)))))
  | _ => .bad
def notA : Option Bool → Eff
  | some b => .val (.bool (!b))
  | none => .bad
def yesA : Option Bool → Eff
  | some b => .val (.bool b)
  | none => .bad
def binA (op : BinOp) (t : TypeId) (x y : AV) : Eff :=
  match op, x, y with
  | .shl, .int k a, .int _ b => shiftA .shl k a b
  | .shr, .int k a, .int _ b => shiftA .shr k a b
  | op, .int k a, .int k' b => bif decide (k = k') then arithA op k a b else .bad
  | .eql, .bool a, .bool b => bif (match P.underlying t with | some .bool => true | _ => false) then .val (.bool (a == b)) else .bad
  | .neq, .bool a, .bool b => bif (match P.underlying t with | some .bool => true | _ => false) then .val (.bool (!(a == b))) else .bad
  | .eql, .agg xs, .agg ys => bif P.eqGuardType P.depth t then .bad else yesA (eqA P Op.maxDepth t (.agg xs) (.agg ys))
  | .neq, .agg xs, .agg ys => bif P.eqGuardType P.depth t then .bad else notA (eqA P Op.maxDepth t (.agg xs) (.agg ys))
  | .eql, .sl _ _ _ _ _, .val (.slice none 0 0) => bif (match P.underlying t with | some (.slice _) => true | _ => false) then .val (.bool false) else .bad
  | .eql, .val (.string a), .val (.string b) => .val (.bool (a.data.toList == b.data.toList))
  | .neq, .val (.string a), .val (.string b) => .val (.bool (!(a.data.toList == b.data.toList)))
  | .eql, .ifc _ _, .val .nilIface => bif (match P.underlying t with | some (.interface _) => true | _ => false) then .val (.bool false) else .bad
  | .neq, .ifc _ _, .val .nilIface => bif (match P.underlying t with | some (.interface _) => true | _ => false) then .val (.bool true) else .bad
  | .eql, .val .nilIface, .val .nilIface => bif (match P.underlying t with | some (.interface ms) => ms.isEmpty | _ => false) then .val (.bool true) else .bad
  | .neq, .val .nilIface, .val .nilIface => bif (match P.underlying t with | some (.interface ms) => ms.isEmpty | _ => false) then .val (.bool false) else .bad
  | .eql, .val (.slice none 0 0), .val (.slice none 0 0) => bif (match P.underlying t with | some (.slice _) => true | _ => false) then .val (.bool true) else .bad
  | .eql, .ro _ xs, .val (.slice none 0 0) => bif (match P.underlying t with | some (.slice _) => true | _ => false) then .test (!xs.isEmpty) (.val (.bool false)) else .bad
  | _, _, _ => .bad
def unA (op : UnOp) (x : AV) : Eff :=
  match op, x with
  | .neg, .int k n => .val (.int k (k.wrap (0 - n)))
  | .not, .bool b => .val (.bool (!b))
  | _, _ => .bad
def convA (src dst : TypeId) (x : AV) : Eff :=
  match P.underlying src, P.underlying dst, x with
  | some (.int _), some (.int k), .int _ n => .val (.int k (k.wrap n))
  | _, _, _ => .bad
def maxA (k : IntKind) (x : Int) : List AV → Option AV
  | [] => some (.int k x)
  | .int k' y :: l => bif decide (k = k') then maxA k (max x y) l else none
  | _ => none
def minA (k : IntKind) (x : Int) : List AV → Option AV
  | [] => some (.int k x)
  | .int k' y :: l => bif decide (k = k') then minA k (min x y) l else none
  | _ => none

def isSliceO : Option TypeId → Bool
  | some t => match P.underlying t with | some (.slice _) => true | _ => false
  | none => false
def isStringO : Option TypeId → Bool
  | some t => match P.underlying t with | some .string => true | _ => false
  | none => false
/-- n cells, the zero value's over and over -/
def zerosA (z : List AV) (s n : Nat) : List AV := (List.range n).map fun j => match nth z (j % s) with | some x => x | none => .top

/-- append(nil, make([]T, n)...): the number stands in the place of the list -/
def appZ (t u : TypeId) (x y : AV) : Eff :=
  match x, y, P.underlying t, P.underlying u with
  | .val (.slice none 0 0), .int _ n, some (.slice e), some (.int _) => match sizeT P e, zeroT P e, bytesT P e with
    | some s, some z, some by' => bif Nat.ble 1 s && Nat.beq (lenA z) s then .test (decide (1 ≤ n ∧ n ≤ 65536 ∧ n * by' ≤ 281474976710656)) (match tcOf P 8 e with
        | some d => match dec d z with
          | some (x, []) => bif Nat.beq d.size s then .listz e d (List.replicate n.toNat x) else .bad
          | _ => .bad
        | none => .bad) else .bad
    | _, _, _ => .bad
  | _, _, _, _ => .bad
def builtinA (ts : Array TypeId) (b : Builtin) (args : List AV) : Eff :=
  match b, args with
  | .copy, [.win id r st n, .win id' r' st' n'] => match ts[0]?.bind P.underlying with
    | some (.slice e) => match sizeT P e with
      | some s => bif Nat.beq id id' && (Nat.beq st 1 && (Nat.beq st' 1 && Nat.beq s 1)) then .copy id r n r' n' else .bad
      | none => .bad
    | _ => .bad
  | .len, [.sl _ _ _ n _] => bif isSliceO P ts[0]? then .val (.int .i64 n) else .bad
  | .len, [.ro _ xs] => bif isSliceO P ts[0]? then .val (.int .i64 xs.length) else .bad
  | .len, [.own id] => bif isSliceO P ts[0]? then .len id else .bad
  | .len, [.val (.slice none 0 0)] => bif isSliceO P ts[0]? then .val (.int .i64 0) else .bad
  | .len, [.val (.string t)] => bif isStringO P ts[0]? then .test (inKB .i64 t.size) (.val (.int .i64 t.size)) else .bad
  | .cap, [.val (.slice none 0 0)] => bif isSliceO P ts[0]? then .val (.int .i64 0) else .bad
  | .append, [x, y] => match ts[0]?, ts[1]? with
    | some t, some u => bif Nat.beq t u then match P.underlying t with
        | some (.slice e) => match sizeT P e, bytesT P e, zeroT P e with
          | some s, some by', some z => bif Nat.ble 1 s && (decide (1 ≤ by') && Nat.beq (lenA z) s) then .app e by'.toNat s (tcOf P 8 e) x y else .bad
          | _, _, _ => .bad
        | _ => .bad
      else appZ P t u x y
    | _, _ => .bad
  | .delete, [.mp id, k] => match ts[0]?.bind P.underlying with
    | some (.map kt _) => match tcOf P 8 kt with
      | some kc => bif keyT P 8 kt kc then match decA kc k with
          | some k => .mapDel id kc k
          | none => .bad
        else .bad
      | none => .bad
    | _ => .bad
  | .clear, [.mp id] => match ts[0]?.bind P.underlying with
    | some (.map _ _) => .mapClr id
    | _ => .bad
  | .max, .int k x :: l => ofOpt (maxA k x l)
  | .min, .int k x :: l => ofOpt (minA k x l)
  | _, _ => .bad
/-- what an operation does, out of the values of its operands -/
def eff (o : Op) (ρ : Operand → AV) : Eff :=
  match o with
  | .move x | .assign x => .val (ρ x)
  | .pick c a b => match ρ c with
    | .bool c => bif c then .val (ρ a) else .val (ρ b)
    | _ => .bad
  | .alloc t => match zeroT P t with
    | some z => .alloc ⟨t, z⟩ (fun id => .ptr id 0 0 0)
    | none => .bad
  | .box t x => match cellsA (ρ x) with
    | some cs => .alloc ⟨t, cs⟩ (fun id => .ptr id 0 0 0)
    | none => .bad
  | .build t parts => ofOpt (buildA P t (parts.toList.map fun p => (p.1, ρ p.2)))
  | .load t a => match ρ a, isAggT P t, sizeT P t with
    | .ptr id row st col, some true, some s => .load id row st col s true
    | .ptr id row st col, some false, _ => .load id row st col 1 false
    | .rop c x col, some true, some s => bif Nat.ble (col + s) c.size then .val (.agg (takeA s (dropA col (enc c x)))) else .bad
    | .rop c x col, some false, _ => ofOpt (nth (enc c x) col)
    | _, _, _ => .bad
  | .store t a x => match ρ a, cellsA (ρ x), sizeT P t with
    | .ptr id row st col, some cs, some s => bif Nat.beq (lenA cs) s && cs.all one then .store id row st col cs else .bad
    | _, _, _ => .bad
  | .binOp op t x y _ => binA P op t (ρ x) (ρ y)
  | .unOp op _ x => unA op (ρ x)
  | .convert src dst x => convA P src dst (ρ x)
  | .nilCheck x => match ρ x with
    | .ptr id row st col => .val (.ptr id row st col)
    | .rop c x col => .val (.rop c x col)
    | .fn (.func f) a c => .val (.fn (.func f) a c)
    | .yld id => .val (.yld id)
    | _ => .bad
  | .makeFunc fn first captured => .val (.fn fn (first.toList.map ρ) (captured.toList.map ρ))
  | .makeInterface t x => match P.underlying t with
    | some (.interface _) => .bad
    | some _ => .val (.ifc t (ρ x))
    | none => .bad
  | .fieldAddr t x i => match ρ x, P.underlying t with
    | .ptr id row st col, some (.struct fs) => match nth fs.toList i with
      | some f => match sizeT P f.type with
        | some s => bif Nat.beq s 0 then .bad else .val (.ptr id row st (col + f.offset))
        | none => .bad
      | none => .bad
    | .rop c x col, some (.struct fs) => match nth fs.toList i with
      | some f => match sizeT P f.type with
        | some s => bif Nat.beq s 0 then .bad else .val (.rop c x (col + f.offset))
        | none => .bad
      | none => .bad
    | _, _ => .bad
  | .field t x i => match ρ x, P.underlying t with
    | .agg cs, some (.struct fs) => match nth fs.toList i with
      | some f => ofOpt (partA P f.type cs f.offset)
      | none => .bad
    | _, _ => .bad
  | .indexAddr t x i => match ρ x, ρ i, P.underlying t with
    | .ptr id row st col, .int _ n, some (.array len e) => match sizeT P e with
      | some s => altIdx len n fun j => .val (.ptr id row st (col + j * s))
      | none => .bad
    | .rop c x col, .int _ n, some (.array len e) => match sizeT P e with
      | some s => altIdx len n fun j => .val (.rop c x (col + j * s))
      | none => .bad
    | .sl id off st len _, .int _ n, some (.slice e) => match sizeT P e with
      | some s => bif Nat.beq st s then .test (decide (0 ≤ n ∧ n < len)) (.val (.ptr id n.toNat st off)) else .bad
      | none => .bad
    | .ro c xs, .int _ n, some (.slice e) => match sizeT P e with
      | some s => bif Nat.beq c.size s && Nat.ble 1 s then .test (decide (0 ≤ n ∧ n < xs.length)) (.val (.rop c (getA xs n.toNat (dflt c)) 0)) else .bad
      | none => .bad
    | .own id, .int _ n, some (.slice e) => match sizeT P e with
      | some s => .idx id s n
      | none => .bad
    | _, _, _ => .bad
  | .index t x i => match ρ x, ρ i, P.underlying t with
    | .val (.string s), .int _ n, some .string => .test (decide (0 ≤ n ∧ n < s.size)) (.val (.int .u8 ((s.data.toList.getD n.toNat 0).toNat)))
    | .agg cs, .int _ n, some (.array len e) => match sizeT P e with
      | some s => altIdx len n fun j => ofOpt (partA P e cs (j * s))
      | none => .bad
    | _, _, _ => .bad
  | .extract x i => match ρ x with
    | .tup vs => ofOpt (nth vs i)
    | _ => .bad
  | .call c => match c.callee with
    | .value f => match ρ f with
      | .fn (.func f) first captured => .call f (first ++ c.args.toList.map ρ ++ captured)
      | .yld id => .round id (c.args.toList.map ρ)
      | _ => .bad
    | .builtin b => builtinA P c.argTypes b (c.args.toList.map ρ)
    | _ => .bad
  | .defer c => match c.callee with
    | .value f => match ρ f with
      | .fn (.func f) first captured => .dfr (.call f (first ++ c.args.toList.map ρ) captured)
      | _ => .bad
    | _ => .bad
  | .panic x => match ρ x with
    | .ifc t y => .panic (.ifc t y)
    | _ => .bad
  | .makeSlice t l c => match ρ l, ρ c, P.underlying t with
    | .int _ l, .int _ c, some (.slice e) => match sizeT P e, zeroT P e, bytesT P e with
      | some s, some z, some by' =>
        bif Nat.ble 1 s && Nat.beq (lenA z) s then .test (decide (0 ≤ l ∧ l ≤ c ∧ c ≤ 65536 ∧ by' * c ≤ 281474976710656)) (
          match (bif isSliceO P (some e) then none else tcOf P 8 e) with
          | some d => match dec d z with
            | some (x, []) => bif Nat.beq d.size s then .list e d (List.replicate l.toNat x) else .bad
            | _ => .bad
          | none => .alloc ⟨e, zerosA z s (c.toNat * s)⟩ (fun id => .sl id 0 s l.toNat c.toNat)) else .bad
      | _, _, _ => .bad
    | _, _, _ => .bad
  | .buildSlice t len parts => match P.underlying t with
    | some (.slice e) => match sizeT P e, zeroT P e with
      | some s, some z =>
        bif Nat.ble (len * s) 4096 && (Nat.ble 1 s && Nat.beq (lenA z) s) then
          match fillA (fun i => some (i * s, s)) (zerosA z s (len * s)) (parts.toList.map fun p => (p.1, ρ p.2)) with
          | some cs => match (tcOf P 8 e).bind fun d => bif Nat.beq d.size s then (decRows d len cs).map fun xs => Eff.list e d xs else none with
            | some x => x
            | none => .alloc ⟨e, cs⟩ (fun id => .sl id 0 s len len)
          | none => .bad
        else .bad
      | _, _ => .bad
    | _ => .bad
  | .slice t x lo hi mx => match ρ x, P.underlying t, mx with
    | .ro c xs, some (.slice e), none => match sizeT P e, lo.map ρ, hi.map ρ with
      | some s, none, some (.int _ h) => bif Nat.beq c.size s then .test (decide (0 ≤ h ∧ h ≤ xs.length)) (.val (.ro c (xs.take h.toNat))) else .bad
      | some s, some (.int _ l), none => bif Nat.beq c.size s then .test (decide (0 ≤ l ∧ l ≤ xs.length)) (.val (.ro c (xs.drop l.toNat))) else .bad
      | some s, some (.int _ l), some (.int _ h) => bif Nat.beq c.size s then .test (decide (0 ≤ l ∧ l ≤ h ∧ h ≤ xs.length)) (.val (.ro c ((xs.take h.toNat).drop l.toNat))) else .bad
      | _, _, _ => .bad
    | .ptr id 0 _ col, some (.array n e), none => match lo, hi.map ρ, sizeT P e with
      | none, none, some s => bif Nat.ble 1 n && Nat.ble n 65536 then .val (.sl id col s n n) else .bad
      | none, some (.int _ h), some s => bif Nat.ble 1 n && Nat.ble n 8 then altN (fun j => .val (.sl id col s j n)) h 0 (n + 1) else .bad
      | _, _, _ => .bad
    | .own id, some (.slice e), none => match sizeT P e, lo.map ρ, hi.map ρ with
      | some s, none, some (.int _ h) => bif winH then .win id s 0 (some h) else .trunc id s h
      | some s, some (.int _ l), none => .win id s l none
      | some s, some (.int _ l), some (.int _ h) => .win id s l (some h)
      | _, _, _ => .bad
    | .val (.slice none 0 0), some (.slice e), none => match sizeT P e, lo, hi.map ρ with
      | some _, none, some (.int _ h) => .test (decide (h = 0)) (.val (.val (.slice none 0 0)))
      | _, _, _ => .bad
    | _, _, _ => .bad
  | .range t x => match ρ x, P.underlying t with
    | .val (.string u), some .string => .iter u
    | _, _ => .bad
  | .next x true => match ρ x with
    | .ptr id 0 0 0 => .nxt id
    | _ => .bad
  | .makeMap t none => match P.underlying t with
    | some (.map kt vt) => match tcOf P 8 kt, tcOf P 8 vt with
      | some kc, some vc => .mapNew kc vc
      | _, _ => .bad
    | _ => .bad
  | .lookup t m k ok => match ρ m, P.underlying t with
    | .mp id, some (.map kt vt) => match tcOf P 8 kt, tcOf P 8 vt with
      | some kc, some vc => bif keyT P 8 kt kc then match zeroD P vt vc, decA kc (ρ k) with
          | some z, some k => .mapGet id kc vc z k ok
          | _, _ => .bad
        else .bad
      | _, _ => .bad
    | _, _ => .bad
  | .mapEntry t m k => match ρ m, P.underlying t with
    | .mp id, some (.map kt vt) => match tcOf P 8 kt, tcOf P 8 vt with
      | some kc, some vc => bif keyT P 8 kt kc then match zeroD P vt vc, decA kc (ρ k) with
          | some z, some k => .mapEnt id kc vc z k
          | _, _ => .bad
        else .bad
      | _, _ => .bad
    | _, _ => .bad
  | .entryStore t m st x => match ρ m, ρ st, P.underlying t with
    | .mp id, .stp st, some (.map _ vt) => match tcOf P 8 vt with
      | some vc => match decA vc (ρ x) with
        | some x => .entSet id st vc x
        | none => .bad
      | none => .bad
    | _, _, _ => .bad
  | .mapUpdate t m k x => match ρ m, P.underlying t with
    | .mp id, some (.map kt vt) => match tcOf P 8 kt, tcOf P 8 vt with
      | some kc, some vc => bif keyT P 8 kt kc then match decA kc (ρ k), decA vc (ρ x) with
          | some k, some x => .mapSet id kc vc k x
          | _, _ => .bad
        else .bad
      | _, _ => .bad
    | _, _ => .bad
  | .typeAssert x _ t true => match ρ x, P.underlying t with
    | .ifc u y, some d => match d with
      | .interface _ => .bad
      | _ => bif Nat.beq u t then .val (.tup [y, .bool true]) else .bad
    | .val .nilIface, some d => match d with
      | .interface _ => .bad
      | _ => match (P.info? t).bind (·.zero) with
        | some (.int k n) => bif inKB k n then .val (.tup [.int k n, .bool false]) else .bad
        | _ => .bad
    | _, _ => .bad
  | _ => .bad
end

inductive Callee' where
  | fn (f : FuncId)
  | yld (id : Nat)
/-- a call: the function, its arguments, the heap, the next number; what is done with the result and the heap behind it -/
abbrev CallT (α : Type) := Callee' → List AV → Heap → Nat → (Out → Heap → Nat → Tree α) → Tree α

section
variable {α : Type} (P : Program) (cT : CallT α)

/-- the rows that are appended -/
def srcRows (hp : Heap) (c : TC) (st : Nat) : AV → Option (List (TCT c))
  | .ro d xs => castL d c xs
  | .own id => match hp id with
    | some (.arr A) => castL A.c c A.xs
    | _ => none
  | .sl id off st' len _ => match hp id with
    | some (.blk b) => bif Nat.beq st st' && Nat.ble (off + len * st) (lenA b.cs) then decRows c len (takeA (len * st) (dropA off b.cs)) else none
    | _ => none
  | .val (.slice none 0 0) => some []
  | .win id row st' n => bif Nat.beq c.size st' then (match hp id with
    | some (.arr A) => (castL A.c c A.xs).map fun xs => (xs.drop row).take n
    | _ => none) else none
  | _ => none
/-- what an append begins with: the rows, and the number that is used up -/
def dstRows (hp : Heap) (ty : TypeId) (c : TC) : AV → Option (List (TCT c) × Option Nat)
  | .own id => match hp id with
    | some (.arr A) => bif Nat.beq A.ty ty then (castL A.c c A.xs).map fun xs => (xs, some id) else none
    | _ => none
  | .val (.slice none 0 0) => some ([], none)
  | _ => none
def hpLess (hp : Heap) : Option Nat → Heap
  | some d => upd hp d none
  | none => hp
/-- an append has room; looked at by its first list, so that it stands still where that is open -/
def appOk {β : Type} (xs ys : List β) (bytes : Nat) : Bool :=
  match xs with
  | [] => decide ((ys.length : Int) * bytes ≤ 140737488355328)
  | x :: xs => decide ((((x :: xs).length + ys.length : Nat) : Int) * bytes ≤ 140737488355328)
theorem appOk_eq {β : Type} (xs ys : List β) (bytes : Nat) : appOk xs ys bytes = decide (((xs.length + ys.length : Nat) : Int) * bytes ≤ 140737488355328) := by
  cases xs with
  | nil => simp [appOk]
  | cons x xs => rfl
/-- what an append of cells of any kind begins with -/
def litDst (hp : Heap) (ty : TypeId) (st : Nat) : AV → Option (List AV × Nat × Option Nat)
  | .own id => match hp id with
    | some (.lit L) => bif Nat.beq L.ty ty && Nat.beq L.st st then some (L.cs, L.n, some id) else none
    | _ => none
  | .val (.slice none 0 0) => some ([], 0, none)
  | _ => none
/-- the cells that are appended -/
def litSrc (hp : Heap) (st : Nat) : AV → Option (List AV × Nat)
  | .sl id off st' len _ => match hp id with
    | some (.blk b) => bif Nat.beq st st' && Nat.ble (off + len * st) (lenA b.cs) then some (takeA (len * st) (dropA off b.cs), len) else none
    | _ => none
  | _ => none
def evApp (o : Option Nat) (s : St) (K : XE → St → Tree α) (ty : TypeId) (bytes st : Nat) (c : Option TC) (dst src : AV) : Tree α :=
  match c with
  | some c => bif Nat.beq c.size st then
      match dstRows s.hp ty c dst, srcRows s.hp c st src with
      | some (xs, id), some ys =>
        bif appOk xs ys bytes then
          K .normal ({ s with hp := upd (hpLess s.hp id) s.nx (some (.arr ⟨ty, c, xs ++ ys⟩)), nx := s.nx + 1 }.put o (.own s.nx))
        else .fail
      | _, _ => .fail
    else .fail
  | none => match litDst s.hp ty st dst, litSrc s.hp st src with
    | some (cs, n, id), some (ds, m) => bif decide (((n + m : Nat) : Int) * bytes ≤ 140737488355328) && ds.all one then
        K .normal ({ s with hp := upd (hpLess s.hp id) s.nx (some (.lit ⟨ty, st, n + m, cs ++ ds⟩)), nx := s.nx + 1 }.put o (.own s.nx))
      else .fail
    | _, _ => .fail

def evEff (o : Option Nat) (s : St) (K : XE → St → Tree α) : Eff → Tree α
  | .val x => K .normal (s.put o x)
  | .load id row st col n agg => match s.hp id with
    | some (.blk b) => bif Nat.ble (row * st + col + n) (lenA b.cs) then
        (bif agg then K .normal (s.put o (.agg (takeA n (dropA (row * st + col) b.cs)))) else match nth b.cs (row * st + col) with
          | some x => K .normal (s.put o x)
          | none => .fail)
      else .fail
    | some (.arr A) => bif Nat.beq A.c.size st && Nat.ble (col + n) st then bif decide (row < A.xs.length) then
        (bif agg then K .normal (s.put o (.agg (takeA n (dropA col (enc A.c (getA A.xs row (dflt A.c))))))) else match nth (enc A.c (getA A.xs row (dflt A.c))) col with
          | some x => K .normal (s.put o x)
          | none => .fail)
      else .fail else .fail
    | some (.lit L) => bif Nat.beq L.st st && Nat.ble (row + 1) L.n && Nat.ble (row * st + col + n) (lenA L.cs) then
        (bif agg then K .normal (s.put o (.agg (takeA n (dropA (row * st + col) L.cs)))) else match nth L.cs (row * st + col) with
          | some x => K .normal (s.put o x)
          | none => .fail)
      else .fail
    | _ => .fail
  | .store id row st col vs => match s.hp id with
    | some (.blk b) => bif Nat.ble (row * st + col + lenA vs) (lenA b.cs) then K .normal ({ s with hp := upd s.hp id (some (.blk ⟨b.ty, setsA b.cs (row * st + col) vs⟩)) }.put o (.val undef)) else .fail
    | some (.arr A) => bif Nat.beq A.c.size st && Nat.ble (col + lenA vs) st then bif decide (row < A.xs.length) then
        match dec A.c (setsA (enc A.c (getA A.xs row (dflt A.c))) col vs) with
        | some (x, []) => K .normal ({ s with hp := upd s.hp id (some (.arr ⟨A.ty, A.c, setA A.xs row x⟩)) }.put o (.val undef))
        | _ => .fail
      else .fail else .fail
    | some (.lit L) => bif Nat.beq L.st st && Nat.ble (row + 1) L.n && Nat.ble (row * st + col + lenA vs) (lenA L.cs) then K .normal ({ s with hp := upd s.hp id (some (.lit ⟨L.ty, L.st, L.n, setsA L.cs (row * st + col) vs⟩)) }.put o (.val undef)) else .fail
    | _ => .fail
  | .alloc b mk => K .normal ({ s with hp := upd s.hp s.nx (some (.blk b)), nx := s.nx + 1 }.put o (mk s.nx))
  | .list ty c xs => K .normal ({ s with hp := upd s.hp s.nx (some (.arr ⟨ty, c, xs⟩)), nx := s.nx + 1 }.put o (.own s.nx))
  | .listz ty c xs => K .normal ({ s with hp := upd s.hp s.nx (some (.arr ⟨ty, c, xs⟩)), nx := s.nx + 1 }.put o (.own s.nx))
  | .app ty bytes st c dst src => evApp o s K ty bytes st c dst src
  | .idx id st n => match s.hp id with
    | some (.arr A) => bif Nat.beq A.c.size st then bif decide (0 ≤ n ∧ n < A.xs.length) then K .normal (s.put o (.ptr id n.toNat st 0)) else .fail else .fail
    | some (.lit L) => bif Nat.beq L.st st then bif decide (0 ≤ n ∧ n < L.n) then K .normal (s.put o (.ptr id n.toNat st 0)) else .fail else .fail
    | _ => .fail
  | .len id => match s.hp id with
    | some (.arr A) => K .normal (s.put o (.int .i64 A.xs.length))
    | some (.lit L) => K .normal (s.put o (.int .i64 L.n))
    | _ => .fail
  | .call f args => bif frzF f then cT (.fn f) (args.map (fzA s.hp (fzOf f s args))) (fzH s.hp (fzOf f s args)) s.nx fun v hp nx => match v with
    | .ret v => K .normal ({ s with tm := fun t => fzA s.hp (fzOf f s args) (s.tm t), hp := hp, nx := nx }.put o v)
    | .pan v => K (.panic v) { s with tm := fun t => fzA s.hp (fzOf f s args) (s.tm t), hp := hp, nx := nx }
    else cT (.fn f) args s.hp s.nx fun v hp nx => match v with
    | .ret v => K .normal ({ s with hp := hp, nx := nx }.put o v)
    | .pan v => K (.panic v) { s with hp := hp, nx := nx }
  | .round id args => cT (.yld id) args s.hp s.nx fun v hp nx => match v with
    | .ret v => K .normal ({ s with hp := hp, nx := nx }.put o v)
    | .pan v => K (.panic v) { s with hp := hp, nx := nx }
  | .dfr d => bif s.rd then .fail else K .normal ({ s with df := d :: s.df }.put o (.val undef))
  | .panic x => K (.panic x) s
  | .test c a => bif c then evEff o s K a else .fail
  | .alt c a b => bif c then evEff o s K a else evEff o s K b
  | .iter t => K .normal ({ s with hp := upd s.hp s.nx (some (.it t 0)), nx := s.nx + 1 }.put o (.ptr s.nx 0 0 0))
  | .nxt id => match s.hp id with
    | some (.it t pos) => bif Nat.ble (pos + 1) t.size then
        bif inKB .i64 pos && inKB .i32 (Utf8.decode t pos).1 then
          K .normal ({ s with hp := upd s.hp id (some (.it t (pos + (Utf8.decode t pos).2))) }.put o (.tup [.bool true, .int .i64 pos, .int .i32 (Utf8.decode t pos).1]))
        else .fail
      else K .normal (s.put o (.tup [.bool false]))
    | _ => .fail
  | .win id st l h => match s.hp id with
    | some (.arr A) => bif Nat.beq A.c.size st then bif decide (0 ≤ l ∧ l ≤ h.getD A.xs.length ∧ h.getD A.xs.length ≤ A.xs.length) then K .normal (s.put o (.win id l.toNat st ((h.getD A.xs.length).toNat - l.toNat))) else .fail else .fail
    | _ => .fail
  | .copy id r n r' n' => match s.hp id with
    | some (.arr A) => bif Nat.beq A.c.size 1 then
        K .normal ({ s with hp := upd s.hp id (some (.arr ⟨A.ty, A.c, A.xs.take r ++ ((A.xs.drop r').take (min n' n) ++ A.xs.drop (r + min n' n))⟩)) }.put o (.int .i64 ((min n' n : Nat) : Int))) else .fail
    | _ => .fail
  | .trunc id st n => match s.hp id with
    | some (.arr A) => bif Nat.beq A.c.size st && decide (0 ≤ n ∧ n ≤ A.xs.length) then
        K .normal ({ s with hp := upd (upd s.hp id none) s.nx (some (.arr ⟨A.ty, A.c, A.xs.take n.toNat⟩)), nx := s.nx + 1 }.put o (.own s.nx))
      else .fail
    | _ => .fail
  | .mapNew kc vc => K .normal ({ s with hp := upd s.hp s.nx (some (.mp ⟨kc, vc, fun _ => none, []⟩)), nx := s.nx + 1 }.put o (.mp s.nx))
  | .mapGet id kc vc z k ok => match s.hp id with
    | some (.mp M) => match castL kc M.kc [k], castL vc M.vc [z] with
      | some [k], some [z] => bif ok then K .normal (s.put o (.tup [encA M.vc ((M.get k).getD z), .bool (M.get k).isSome])) else K .normal (s.put o (encA M.vc ((M.get k).getD z)))
      | _, _ => .fail
    | _ => .fail
  | .mapSet id kc vc k x => match s.hp id with
    | some (.mp M) => match castL kc M.kc [k], castL vc M.vc [x] with
      | some [k], some [x] => K .normal ({ s with hp := upd s.hp id (some (.mp ⟨M.kc, M.vc, fun j => bif beqD M.kc j k then some x else M.get j, M.ents⟩)) }.put o (.val undef))
      | _, _ => .fail
    | _ => .fail
  | .mapDel id kc k => match s.hp id with
    | some (.mp M) => match castL kc M.kc [k] with
      | some [k] => K .normal ({ s with hp := upd s.hp id (some (.mp ⟨M.kc, M.vc, fun j => bif beqD M.kc j k then none else M.get j, []⟩)) }.put o (.val (.tuple #[])))
      | _ => .fail
    | _ => .fail
  | .mapClr id => match s.hp id with
    | some (.mp M) => K .normal ({ s with hp := upd s.hp id (some (.mp ⟨M.kc, M.vc, fun _ => none, []⟩)) }.put o (.val (.tuple #[])))
    | _ => .fail
  | .mapEnt id kc vc z k => match s.hp id with
    | some (.mp M) => match castL kc M.kc [k], castL vc M.vc [z] with
      | some [k], some [z] => K .normal ({ s with hp := upd s.hp id (some (.mp ⟨M.kc, M.vc, fun j => bif beqD M.kc j k then some ((M.get k).getD z) else M.get j, (s.nx, k) :: M.ents⟩)), nx := s.nx + 1 }.put o (.tup [encA M.vc ((M.get k).getD z), .stp s.nx]))
      | _, _ => .fail
    | _ => .fail
  | .entSet id st vc x => match s.hp id with
    | some (.mp M) => match assoc M.ents st, castL vc M.vc [x] with
      | some k, some [x] => bif keyC M.kc then K .normal ({ s with hp := upd s.hp id (some (.mp ⟨M.kc, M.vc, fun j => bif beqD M.kc j k then some x else M.get j, M.ents⟩)) }.put o (.val undef)) else .fail
      | _, _ => .fail
    | _ => .fail
  | _ => .fail

def evOps (ops : Array Oper) : List Nat → St → (XE → St → Tree α) → Tree α
  | [], s, K => K .normal s
  | i :: rest, s, K =>
    match ops[i]? with
    | none => evOps ops rest s K
    | some o =>
      bif Nat.ble s.n ((o.dst).getD 0) then .fail else
      match o.guard with
      | none => evEff cT o.dst s (fun e s' => match e with | .normal => evOps ops rest s' K | e => K e s') (eff P o.op s.eval)
      | some (j, want) =>
        match (ops[j]?).bind (·.dst) with
        | none => .fail
        | some d =>
          bif Nat.ble s.n d then .fail else
          match s.tm d with
          | .bool b =>
            bif b then (bif want then evEff cT o.dst (s.put (some d) (.bool true)) (fun e s' => match e with | .normal => evOps ops rest s' K | e => K e s') (eff P o.op (s.put (some d) (.bool true)).eval)
                else evOps ops rest ((s.put (some d) (.bool true)).put o.dst (.val undef)) K)
            else (bif want then evOps ops rest ((s.put (some d) (.bool false)).put o.dst (.val undef)) K
                else evEff cT o.dst (s.put (some d) (.bool false)) (fun e s' => match e with | .normal => evOps ops rest s' K | e => K e s') (eff P o.op (s.put (some d) (.bool false)).eval))
          | .val (.tuple _) => evOps ops rest (s.put o.dst (.val undef)) K
          | _ => .fail

/-- a summary of a function that neither reads nor writes memory: a condition, and what it hands back; whether that holds no list -/
inductive Vw where
  | one (v : Option (TC × Nat))
  | cl (vs : List (Option (TC × Nat)))
structure PureT where
  run : List AV → Option (Bool × AV)
  flat : Bool
  vw : List Vw := []
  pv : Option (TypeId × IntKind × Int) := none
  /-- what lists it hands back are new -/
  fr : Bool := false
/-- a summary by data: what the arguments are, what comes back, when it does, and what it is -/
def spec (cs rs : List TC) (ok : TCTs cs → Bool) (f : TCTs cs → TCTs rs) : PureT :=
  { run := fun l => match decAs cs l with
      | some x => some (ok x, encR rs (f x))
      | none => none
    flat := noSls rs }

/-- a pointer to a block of the call's own, as one into data that stays: a view of the cells about it -/
def viewA (P : Program) (hp : Heap) (v : Option (TC × Nat)) (x : AV) : AV :=
  match v, x with
  | some (c, o), .ptr id row st col => match hp id with
    | some (.blk b) => bif Nat.ble o (row * st + col) && Nat.ble (row * st + col - o + c.size) (lenA b.cs) then match dec c ((takeA c.size (dropA (row * st + col - o) b.cs)).map (ro1 P hp)) with
        | some (y, []) => .rop c y o
        | _ => x
      else x
    | _ => x
  | _, x => x
def viewIds (hp : Heap) (v : Option (TC × Nat)) (x : AV) : List Nat :=
  match v, x with
  | some (_, _), .ptr id _ _ _ => match hp id with
    | some (.blk b) => id :: b.cs.flatMap ids1
    | _ => []
  | _, _ => []
def viewC (P : Program) (hp : Heap) : List (Option (TC × Nat)) → List AV → List AV
  | v :: vs, x :: xs => viewA P hp v x :: viewC P hp vs xs
  | _, xs => xs
def viewCIds (hp : Heap) : List (Option (TC × Nat)) → List AV → List Nat
  | v :: vs, x :: xs => viewIds hp v x ++ viewCIds hp vs xs
  | _, _ => []
def viewV (P : Program) (hp : Heap) (v : Vw) (x : AV) : AV :=
  match v, x with
  | .one v, x => viewA P hp v x
  | .cl vs, .fn f a c => .fn f a (viewC P hp vs c)
  | _, x => x
def viewVIds (hp : Heap) (v : Vw) (x : AV) : List Nat :=
  match v, x with
  | .one v, x => viewIds hp v x
  | .cl vs, .fn _ _ c => viewCIds hp vs c
  | _, _ => []
def viewL (P : Program) (hp : Heap) : List Vw → List AV → List AV
  | v :: vs, x :: xs => viewV P hp v x :: viewL P hp vs xs
  | _, xs => xs
def viewLIds (hp : Heap) : List Vw → List AV → List Nat
  | v :: vs, x :: xs => viewVIds hp v x ++ viewLIds hp vs xs
  | _, _ => []
/-- the same for a region whose order is open: one view at most, and what it looks at -/
def view1 (hp : Heap) : List Vw → List AV → Option (List AV × Option (Nat × Nat × Nat))
  | [], xs => some (xs, none)
  | _, [] => some ([], none)
  | .one none :: vs, x :: xs => match view1 hp vs xs with
    | some (ys, m) => some (x :: ys, m)
    | none => none
  | .cl _ :: vs, x :: xs => match view1 hp vs xs with
    | some (ys, m) => some (x :: ys, m)
    | none => none
  | .one (some (c, o)) :: vs, x :: xs => match x with
    | .ptr id row st col => match hp id, view1 hp vs xs with
      | some (.blk b), some (ys, none) => bif Nat.ble 1 c.size && (Nat.ble o (row * st + col) && Nat.ble (row * st + col - o + c.size) (lenA b.cs)) then match dec c (takeA c.size (dropA (row * st + col - o) b.cs)) with
          | some (y, []) => some (.rop c y o :: ys, some (id, row * st + col - o, row * st + col - o + c.size))
          | _ => none
        else none
      | _, _ => none
    | x => match view1 hp vs xs with
      | some (ys, m) => some (x :: ys, m)
      | none => none

/-- what one operation of a region does to memory -/
inductive Mem where
  | no
  | ld (id lo hi : Nat)
  | st (id lo : Nat) (vs : List AV)
  | al (b : Blk)
  | la (id : Nat)
  | sa (id : Nat) (A : Arr)
  | aa (A : Arr)
  | sm (id : Nat) (M : Mp)
  | lp (id lo hi : Nat) (c : Bool) (p : TypeId × IntKind × Int)
/-- a look at some cells, or at nothing -/
def lookMem : Option (Nat × Nat × Nat) → Mem
  | some (id, lo, hi) => .ld id lo hi
  | none => .no
/-- a look of a call that panics where a condition fails -/
def lookPan (m : Option (Nat × Nat × Nat)) (c : Bool) (p : TypeId × IntKind × Int) : Mem :=
  match m with
  | some (id, lo, hi) => .lp id lo hi c p
  | none => .lp 0 0 0 c p
def pvA (p : TypeId × IntKind × Int) : AV := .ifc p.1 (.int p.2.1 p.2.2)
structure It where
  dst : Option Nat
  res : AV
  mem : Mem
def Mem.app (id0 : Nat) (m : Mem) (hp : Heap) : Heap :=
  match m with
  | .st id lo vs => upd hp id (match hp id with | some (.blk b) => some (.blk ⟨b.ty, setsA b.cs lo vs⟩) | o => o)
  | .al b => upd hp id0 (some (.blk b))
  | .sa id A => upd hp id (some (.arr A))
  | .aa A => upd hp id0 (some (.arr A))
  | .sm id M => upd hp id (some (.mp M))
  | _ => hp
def It.app (id0 : Nat) (it : It) (s : St) : St := { s with hp := it.mem.app id0 s.hp }.put it.dst it.res

/-- a summary that may hand back lists: what it takes is data alone -/
def noVw (g : PureT) : Bool := match g.vw, g.pv with
  | [], none => true
  | _, _ => false
/-- one operation of a region whose order is open, walked in the text's order; what can't be walked so ends the walk -/
def plEff (pu : List (Nat × PureT)) (id0 : Nat) (dst : Option Nat) (s : St) (stop : Tree α) (k : It → Tree α) : Eff → Tree α
  | .val x => k ⟨dst, x, .no⟩
  | .load id row st col n agg => match s.hp id with
    | some (.blk b) => bif Nat.ble 1 n && Nat.ble (row * st + col + n) (lenA b.cs) then
        (bif agg then k ⟨dst, .agg (takeA n (dropA (row * st + col) b.cs)), .ld id (row * st + col) (row * st + col + n)⟩ else match nth b.cs (row * st + col) with
          | some x => k ⟨dst, x, .ld id (row * st + col) (row * st + col + n)⟩
          | none => .fail)
      else .fail
    | some (.arr A) => bif Nat.beq A.c.size st && Nat.ble (col + n) st then bif decide (row < A.xs.length) then
        (bif agg then k ⟨dst, .agg (takeA n (dropA col (enc A.c (getA A.xs row (dflt A.c))))), .la id⟩ else match nth (enc A.c (getA A.xs row (dflt A.c))) col with
          | some x => k ⟨dst, x, .la id⟩
          | none => .fail)
      else .fail else .fail
    | some (.lit _) => stop
    | _ => .fail
  | .store id row st col vs => match s.hp id with
    | some (.blk b) => bif Nat.ble 1 (lenA vs) && Nat.ble (row * st + col + lenA vs) (lenA b.cs) then k ⟨dst, .val undef, .st id (row * st + col) vs⟩ else .fail
    | some (.arr A) => bif Nat.beq A.c.size st && Nat.ble (col + lenA vs) st then bif decide (row < A.xs.length) then
        match dec A.c (setsA (enc A.c (getA A.xs row (dflt A.c))) col vs) with
        | some (x, []) => k ⟨dst, .val undef, .sa id ⟨A.ty, A.c, setA A.xs row x⟩⟩
        | _ => .fail
      else .fail else .fail
    | _ => stop
  | .alloc b mk => k ⟨dst, mk id0, .al b⟩
  | .list ty c xs => k ⟨dst, .own id0, .aa ⟨ty, c, xs⟩⟩
  | .idx id st n => match s.hp id with
    | some (.arr A) => bif Nat.beq A.c.size st then bif decide (0 ≤ n ∧ n < A.xs.length) then k ⟨dst, .ptr id n.toNat st 0, .la id⟩ else .fail else .fail
    | some (.lit _) => stop
    | _ => .fail
  | .win id st l h => match s.hp id with
    | some (.arr A) => bif Nat.beq A.c.size st then bif decide (0 ≤ l ∧ l ≤ h.getD A.xs.length ∧ h.getD A.xs.length ≤ A.xs.length) then k ⟨dst, .win id l.toNat st ((h.getD A.xs.length).toNat - l.toNat), .la id⟩ else .fail else .fail
    | _ => .fail
  | .len id => match s.hp id with
    | some (.arr A) => k ⟨dst, .int .i64 A.xs.length, .la id⟩
    | some (.lit _) => stop
    | _ => .fail
  | .call f args => match (assoc pu f).bind fun g => bif g.flat || noVw g then (view1 s.hp g.vw args).bind fun v => (g.run v.1).map fun r => (r.1, r.2, v.2, g.pv) else none with
    | some (c, x, m, p) => match p with
      | none => bif c then k ⟨dst, x, lookMem m⟩ else .fail
      | some p => k ⟨dst, x, lookPan m c p⟩
    | none => stop
  | .mapGet id kc vc z k' ok => match s.hp id with
    | some (.mp M) => match castL kc M.kc [k'], castL vc M.vc [z] with
      | some [j], some [z] => k ⟨dst, bif ok then .tup [encA M.vc ((M.get j).getD z), .bool (M.get j).isSome] else encA M.vc ((M.get j).getD z), .la id⟩
      | _, _ => .fail
    | _ => .fail
  | .mapSet id kc vc k' x => match s.hp id with
    | some (.mp M) => match castL kc M.kc [k'], castL vc M.vc [x] with
      | some [j], some [y] => k ⟨dst, .val undef, .sm id ⟨M.kc, M.vc, fun i => bif beqD M.kc i j then some y else M.get i, M.ents⟩⟩
      | _, _ => .fail
    | _ => .fail
  | .test c e => bif c then plEff pu id0 dst s stop k e else .fail
  | .alt c a b => bif c then plEff pu id0 dst s stop k a else plEff pu id0 dst s stop k b
  | .bad => .fail
  | _ => stop

def evPlan (pu : List (Nat × PureT)) (nx : Nat) (ops : Array Oper) (K : List It → St → Tree α) : List Nat → List It → St → Tree α
  | [], acc, s => K acc s
  | i :: rest, acc, s =>
    match ops[i]? with
    | none => .fail
    | some o =>
      bif Nat.ble s.n ((o.dst).getD 0) then .fail else
      match o.guard with
      | none => plEff pu (nx + i) o.dst s (K acc s) (fun it => evPlan pu nx ops K rest (acc ++ [it]) (it.app (nx + i) s)) (eff P o.op s.eval)
      | some (j, want) =>
        match (ops[j]?).bind (·.dst) with
        | none => .fail
        | some d =>
          bif Nat.ble s.n d then .fail else
          match s.tm d with
          | .bool b =>
            bif b then (bif want then plEff pu (nx + i) o.dst (s.put (some d) (.bool true)) (K acc (s.put (some d) (.bool true))) (fun it => evPlan pu nx ops K rest (acc ++ [it]) (it.app (nx + i) (s.put (some d) (.bool true)))) (eff P o.op (s.put (some d) (.bool true)).eval)
                else evPlan pu nx ops K rest (acc ++ [⟨o.dst, .val undef, .no⟩]) ((s.put (some d) (.bool true)).put o.dst (.val undef)))
            else (bif want then evPlan pu nx ops K rest (acc ++ [⟨o.dst, .val undef, .no⟩]) ((s.put (some d) (.bool false)).put o.dst (.val undef))
                else plEff pu (nx + i) o.dst (s.put (some d) (.bool false)) (K acc (s.put (some d) (.bool false))) (fun it => evPlan pu nx ops K rest (acc ++ [it]) (it.app (nx + i) (s.put (some d) (.bool false)))) (eff P o.op (s.put (some d) (.bool false)).eval))
          | .val (.tuple _) => evPlan pu nx ops K rest (acc ++ [⟨o.dst, .val undef, .no⟩]) (s.put o.dst (.val undef))
          | _ => .fail

/-- which operations come before one, as the bits of a number -/
def maskOf (acc : List Nat) : List Edge → Nat
  | [] => 0
  | e :: l => bif Region.binds .any e then (2 ^ e.on ||| ((nth acc e.on).getD 0)) ||| maskOf acc l else maskOf acc l
def masks : List Oper → List Nat → List Nat
  | [], acc => acc
  | o :: l, acc => masks l (acc ++ [maskOf acc o.after.toList])
def edgesOk : List Oper → Nat → Bool
  | [], _ => true
  | o :: l, i => (o.after.toList.all fun e => bif Region.binds .any e then Nat.blt e.on i else true) && edgesOk l (i + 1)
def apartB (id lo hi id' lo' hi' : Nat) : Bool := !(Nat.beq id id') || (Nat.ble hi lo' || Nat.ble hi' lo)
def Mem.nrm : Mem → Mem
  | .lp id lo hi _ _ => .ld id lo hi
  | m => m
def memIndep0 (i : Nat) (m : Mem) (j : Nat) (k : Mem) : Bool :=
  match m, k with
  | .no, _ => true
  | _, .no => true
  | .ld _ _ _, .ld _ _ _ => true
  | .ld id lo hi, .st id' lo' vs => apartB id lo hi id' lo' (lo' + lenA vs)
  | .st id' lo' vs, .ld id lo hi => apartB id lo hi id' lo' (lo' + lenA vs)
  | .ld id _ _, .al _ => !(Nat.beq id j)
  | .al _, .ld id _ _ => !(Nat.beq id i)
  | .st id lo vs, .st id' lo' vs' => apartB id lo (lo + lenA vs) id' lo' (lo' + lenA vs')
  | .st id _ _, .al _ => !(Nat.beq id j)
  | .al _, .st id _ _ => !(Nat.beq id i)
  | .al _, .al _ => true
  | .la _, .la _ => true
  | .la _, .ld _ _ _ => true
  | .ld _ _ _, .la _ => true
  | .la id, .st id' _ _ => !(Nat.beq id id')
  | .st id' _ _, .la id => !(Nat.beq id id')
  | .la id, .al _ => !(Nat.beq id j)
  | .al _, .la id => !(Nat.beq id i)
  | .la id, .sa id' _ => !(Nat.beq id id')
  | .sa id' _, .la id => !(Nat.beq id id')
  | .sa id _, .sa id' _ => !(Nat.beq id id') && !(Nat.beq id' id)
  | .sa id _, .ld id' _ _ => !(Nat.beq id id')
  | .ld id' _ _, .sa id _ => !(Nat.beq id id')
  | .sa id _, .st id' _ _ => !(Nat.beq id id')
  | .st id' _ _, .sa id _ => !(Nat.beq id id')
  | .sa id _, .al _ => !(Nat.beq id j)
  | .al _, .sa id _ => !(Nat.beq id i)
  | .aa _, .aa _ => true
  | .aa _, .al _ => true
  | .al _, .aa _ => true
  | .aa _, .la id => !(Nat.beq id i)
  | .la id, .aa _ => !(Nat.beq id j)
  | .aa _, .ld id _ _ => !(Nat.beq id i)
  | .ld id _ _, .aa _ => !(Nat.beq id j)
  | .aa _, .st id _ _ => !(Nat.beq id i)
  | .st id _ _, .aa _ => !(Nat.beq id j)
  | .aa _, .sa id _ => !(Nat.beq id i)
  | .sa id _, .aa _ => !(Nat.beq id j)
  | .sm id _, .sm id' _ => !(Nat.beq id id') && !(Nat.beq id' id)
  | .sm id _, .ld id' _ _ => !(Nat.beq id id')
  | .ld id' _ _, .sm id _ => !(Nat.beq id id')
  | .sm id _, .la id' => !(Nat.beq id id')
  | .la id', .sm id _ => !(Nat.beq id id')
  | .sm id _, .st id' _ _ => !(Nat.beq id id')
  | .st id' _ _, .sm id _ => !(Nat.beq id id')
  | .sm id _, .sa id' _ => !(Nat.beq id id')
  | .sa id' _, .sm id _ => !(Nat.beq id id')
  | .sm id _, .al _ => !(Nat.beq id j)
  | .al _, .sm id _ => !(Nat.beq id i)
  | .sm id _, .aa _ => !(Nat.beq id j)
  | .aa _, .sm id _ => !(Nat.beq id i)
  | .lp .., _ => false
  | _, .lp .. => false
def memIndep (i : Nat) (m : Mem) (j : Nat) (k : Mem) : Bool := memIndep0 i m.nrm j k.nrm
/-- whether a call of a region panics, and with what -/
def pans : List It → Option (Option (Bool × TypeId × IntKind × Int))
  | [] => some none
  | it :: l => match it.mem with
    | .lp _ _ _ c p => match pans l with
      | some none => some (some (c, p))
      | some (some (c', p')) => bif decide (p = p') then some (some (c && c', p)) else none
      | none => none
    | _ => pans l
/-- what is known where a region is left by a panic: what it does not touch -/
def wipeTm : List It → (Nat → AV) → Nat → AV
  | [], tm => tm
  | it :: l, tm => wipeTm l (match it.dst with
    | some d => upd tm d .top
    | none => tm)
def wipeHp : List It → Heap → Heap
  | [], hp => hp
  | it :: l, hp => wipeHp l (match it.mem with
    | .st id _ _ => upd hp id none
    | .sa id _ => upd hp id none
    | .sm id _ => upd hp id none
    | _ => hp)
def wipe (items : List It) (s : St) : St := { s with tm := wipeTm items s.tm, hp := wipeHp items s.hp }
def looks (ops : Array Oper) (o : Oper) : List Nat :=
  (o.op.operands.toList.filterMap fun | .tmp t => some t | _ => none) ++
  (match o.guard with
   | some (g, _) => ((ops[g]?).bind (·.dst)).toList
   | none => [])
def notIn (d : Option Nat) (l : List Nat) : Bool :=
  match d with
  | some d => l.all fun t => !(Nat.beq t d)
  | none => true
def diffD (d e : Option Nat) : Bool :=
  match d, e with
  | some d, some e => !(Nat.beq d e)
  | _, _ => true
/-- what the plan of a region keeps of an operation for the look at pairs -/
structure Row where
  dst : Option Nat
  looks : List Nat
  mem : Mem
  mask : Nat
def rowsOf (ops : Array Oper) : List Oper → List It → List Nat → List Row
  | o :: l, it :: is, m :: ms => ⟨it.dst, looks ops o, it.mem, m⟩ :: rowsOf ops l is ms
  | _, _, _ => []
def pairOk (nx i : Nat) (r : Row) (j : Nat) (q : Row) : Bool :=
  diffD r.dst q.dst && (Nat.testBit q.mask i || (notIn r.dst q.looks && (notIn q.dst r.looks && memIndep (nx + i) r.mem (nx + j) q.mem)))
def rowOk (nx i : Nat) (r : Row) : Nat → List Row → Bool
  | _, [] => true
  | j, q :: l => pairOk nx i r j q && rowOk nx i r (j + 1) l
def rowsOk (nx : Nat) : Nat → List Row → Bool
  | _, [] => true
  | i, r :: l => rowOk nx i r (i + 1) l && rowsOk nx (i + 1) l
def planOk (nx : Nat) (ops : Array Oper) (items : List It) : Bool :=
  edgesOk ops.toList 0 && rowsOk nx 0 (rowsOf ops ops.toList items (masks ops.toList []))

/-- from a number on each operation comes after all that stand before it -/
def fullOk (m : Nat) : Nat → List Nat → Bool
  | _, [] => true
  | k, x :: l => (bif Nat.ble m k then (List.range k).all (fun j => Nat.testBit x j) else true) && fullOk m (k + 1) l

/-! a region whose order is open, where some operations turn memory: these come one after another; all others are walked as early as they may be -/
def nilIt : It := ⟨none, .val undef, .no⟩
/-- the items of a set, carried out in the text's order -/
def appD (nx : Nat) (D : Nat → Bool) : Nat → List It → St → St
  | _, [], s => s
  | k, it :: l, s => appD nx D (k + 1) l (bif D k then it.app (nx + k) s else s)
def notLp : Mem → Bool
  | .lp .. => false
  | _ => true
def firstOf : Option Nat → Nat → Option Nat
  | some h, _ => some h
  | none, i => some i
/-- the operations that wait for none of those that turn memory -/
def evWalk (pu : List (Nat × PureT)) (nx : Nat) (ops : Array Oper) (ms : List Nat) (skip : Nat) (K : List It → Nat → Nat → Option Nat → St → Tree α) : List Nat → List It → Nat → Nat → Option Nat → St → Tree α
  | [], items, live, hvy, first, s => K items live hvy first s
  | i :: rest, items, live, hvy, first, s =>
    bif Nat.testBit skip i then evWalk pu nx ops ms skip K rest items live hvy first s else
    bif !(Nat.beq (((nth ms i).getD 0) &&& hvy) 0) then evWalk pu nx ops ms skip K rest items live (hvy ||| 2 ^ i) first s else
    match ops[i]? with
    | none => .fail
    | some o =>
      bif Nat.ble s.n ((o.dst).getD 0) then .fail else
      match o.guard with
      | none => plEff pu (nx + i) o.dst s (evWalk pu nx ops ms skip K rest items live (hvy ||| 2 ^ i) (firstOf first i) s)
          (fun it => bif notLp it.mem then evWalk pu nx ops ms skip K rest (setA items i it) (live ||| 2 ^ i) hvy first (it.app (nx + i) s)
            else evWalk pu nx ops ms skip K rest items live (hvy ||| 2 ^ i) (firstOf first i) s) (eff P o.op s.eval)
      | some (j, want) =>
        match (ops[j]?).bind (·.dst) with
        | none => .fail
        | some d =>
          bif Nat.ble s.n d then .fail else
          match s.tm d with
          | .bool b =>
            bif b then (bif want then plEff pu (nx + i) o.dst (s.put (some d) (.bool true)) (evWalk pu nx ops ms skip K rest items live (hvy ||| 2 ^ i) (firstOf first i) (s.put (some d) (.bool true)))
                  (fun it => bif notLp it.mem then evWalk pu nx ops ms skip K rest (setA items i it) (live ||| 2 ^ i) hvy first (it.app (nx + i) (s.put (some d) (.bool true)))
                    else evWalk pu nx ops ms skip K rest items live (hvy ||| 2 ^ i) (firstOf first i) (s.put (some d) (.bool true))) (eff P o.op (s.put (some d) (.bool true)).eval)
                else evWalk pu nx ops ms skip K rest (setA items i ⟨o.dst, .val undef, .no⟩) (live ||| 2 ^ i) hvy first ((s.put (some d) (.bool true)).put o.dst (.val undef)))
            else (bif want then evWalk pu nx ops ms skip K rest (setA items i ⟨o.dst, .val undef, .no⟩) (live ||| 2 ^ i) hvy first ((s.put (some d) (.bool false)).put o.dst (.val undef))
                else plEff pu (nx + i) o.dst (s.put (some d) (.bool false)) (evWalk pu nx ops ms skip K rest items live (hvy ||| 2 ^ i) (firstOf first i) (s.put (some d) (.bool false)))
                  (fun it => bif notLp it.mem then evWalk pu nx ops ms skip K rest (setA items i it) (live ||| 2 ^ i) hvy first (it.app (nx + i) (s.put (some d) (.bool false)))
                    else evWalk pu nx ops ms skip K rest items live (hvy ||| 2 ^ i) (firstOf first i) (s.put (some d) (.bool false))) (eff P o.op (s.put (some d) (.bool false)).eval))
          | .val (.tuple _) => evWalk pu nx ops ms skip K rest (setA items i ⟨o.dst, .val undef, .no⟩) (live ||| 2 ^ i) hvy first (s.put o.dst (.val undef))
          | _ => .fail
/-- which numbers an item has to do with, when it is carried out late -/
def inB (l : List Nat) (i : Nat) : Bool := match l with
  | [] => false
  | j :: l => Nat.beq j i || inB l i
/-- the blocks of the call's own that the slices among an operation's arguments lead to -/
def visA : AV → List Nat
  | .sl id _ _ _ _ => [id]
  | .win id _ _ _ => [id]
  | _ => []
def visL : List AV → List Nat
  | [] => []
  | x :: l => visA x ++ visL l
def visOf (op : Op) (ρ : Operand → AV) : List Nat := match op with
  | .call c => visL (c.args.toList.map ρ)
  | _ => []
def hidMem (vis : List Nat) (id0 : Nat) : Mem → List Nat
  | .ld id _ _ => bif inB vis id then [] else [id]
  | .st id _ _ => [id]
  | .la id => bif inB vis id then [] else [id]
  | .sa id _ => [id]
  | .sm id _ => [id]
  | .lp id _ _ _ _ => [id]
  | .al _ => [id0]
  | .aa _ => [id0]
  | .no => []
def hidOf (vis : List Nat) (nx q : Nat) : Nat → List It → List Nat
  | _, [] => []
  | k, it :: l => (bif Nat.testBit q k then hidMem vis (nx + k) it.mem else []) ++ hidOf vis nx q (k + 1) l
/-- the blocks that loads look at which may come before or behind -/
def ldsOf (q : Nat) : Nat → List It → List Nat
  | _, [] => []
  | k, it :: l => (bif Nat.testBit q k then (match it.mem with | .ld id _ _ => [id] | .la id => [id] | _ => []) else []) ++ ldsOf q (k + 1) l
def bothB (m : List Nat) : List Nat → List Nat
  | [] => []
  | i :: l => bif inB m i then i :: bothB m l else bothB m l
def agreeHp : List Nat → Heap → Heap → Prop
  | [], _, _ => True
  | i :: l, hp, hp' => hp i = hp' i ∧ agreeHp l hp hp'
def needHp {α : Type} (ids : List Nat) (hp hp' : Heap) (t : Tree α) : Tree α := match ids with
  | [] => t
  | i :: l => .need (agreeHp (i :: l) hp hp') t
def dstsOf (q : Nat) : Nat → List It → List Nat
  | _, [] => []
  | k, it :: l => (bif Nat.testBit q k then it.dst.toList else []) ++ dstsOf q (k + 1) l
def hideHp (ids : List Nat) (hp : Heap) : Heap := fun i => bif inB ids i then none else hp i
def mergeHp (ids : List Nat) (hp hp' : Heap) : Heap := fun i => bif inB ids i then hp i else hp' i
def hideTm (ds : List Nat) (tm : Nat → AV) : Nat → AV := fun t => bif inB ds t then .top else tm t
def oneTm (d : Option Nat) (tm tm' : Nat → AV) : Nat → AV := match d with
  | some d => upd tm d (tm' d)
  | none => tm
/-- all operations but those of a set come behind one -/
def afterB (ms : List Nat) (done h : Nat) : Nat → Bool
  | 0 => true
  | i + 1 => (Nat.testBit done i || (Nat.beq i h || Nat.testBit ((nth ms i).getD 0) h)) && afterB ms done h i
def evMix (pu : List (Nat × PureT)) (nx : Nat) (ops : Array Oper) (ms : List Nat) (K : XE → St → Tree α) : Nat → Nat → Nat → List It → St → Tree α
  | 0, _, _, _, _ => .fail
  | n + 1, dn, pd, items, s =>
    evWalk P pu nx ops ms (dn ||| pd) (fun items live _ first sc =>
      match first with
      | none => bif planOk nx ops items then K .normal sc else .fail
      | some h => match ops[h]? with
        | none => .fail
        | some o =>
          bif planOk nx ops (setA items h ⟨o.dst, .val undef, .no⟩) && (afterB ms (dn ||| live) h ops.size && (hidOf (visOf o.op (appD nx (Nat.testBit (live &&& (nth ms h).getD 0)) 0 items s).eval) nx (live ^^^ (live &&& (nth ms h).getD 0)) 0 items).all (fun i => Nat.blt i s.nx)) then
            evOps P cT ops [h] { (appD nx (Nat.testBit (live &&& (nth ms h).getD 0)) 0 items s) with
                tm := hideTm (dstsOf (live ^^^ (live &&& (nth ms h).getD 0)) 0 items) (appD nx (Nat.testBit (live &&& (nth ms h).getD 0)) 0 items s).tm,
                hp := hideHp (hidOf (visOf o.op (appD nx (Nat.testBit (live &&& (nth ms h).getD 0)) 0 items s).eval) nx (live ^^^ (live &&& (nth ms h).getD 0)) 0 items) (appD nx (Nat.testBit (live &&& (nth ms h).getD 0)) 0 items s).hp } fun e s1 =>
              bif Nat.ble s.nx s1.nx then match e with
                | .normal => needHp (bothB (ldsOf (live ^^^ (live &&& (nth ms h).getD 0)) 0 items) (visOf o.op (appD nx (Nat.testBit (live &&& (nth ms h).getD 0)) 0 items s).eval)) s1.hp (appD nx (Nat.testBit (live &&& (nth ms h).getD 0)) 0 items s).hp (evMix pu nx ops ms K n (dn ||| (live &&& (nth ms h).getD 0) ||| 2 ^ h) (live ^^^ (live &&& (nth ms h).getD 0)) items { s1 with
                    tm := oneTm o.dst (appD nx (Nat.testBit (live &&& (nth ms h).getD 0)) 0 items s).tm s1.tm,
                    hp := mergeHp (hidOf (visOf o.op (appD nx (Nat.testBit (live &&& (nth ms h).getD 0)) 0 items s).eval) nx (live ^^^ (live &&& (nth ms h).getD 0)) 0 items) (appD nx (Nat.testBit (live &&& (nth ms h).getD 0)) 0 items s).hp s1.hp })
                | e => K e { s1 with hp := hideHp (hidOf (visOf o.op (appD nx (Nat.testBit (live &&& (nth ms h).getD 0)) 0 items s).eval) nx (live ^^^ (live &&& (nth ms h).getD 0)) 0 items) s1.hp }
              else .fail
          else .fail)
      (List.range ops.size) items pd 0 none (appD nx (Nat.testBit pd) 0 items s)

/-- a number that is worked out before it goes on -/
def fcN {β : Type} (n : Nat) (k : Nat → β) : β := Nat.rec (motive := fun _ => β) (k 0) (fun m _ => k (Nat.succ m)) n
def fcI {β : Type} (n : Int) (k : Int → β) : β := match n with
  | .ofNat m => fcN m fun m => k (.ofNat m)
  | .negSucc m => fcN m fun m => k (.negSucc m)
theorem fcN_eq {β : Type} (n : Nat) (k : Nat → β) : fcN n k = k n := by cases n <;> rfl
theorem fcI_eq {β : Type} (n : Int) (k : Int → β) : fcI n k = k n := by
  cases n <;> simp only [fcI, fcN_eq]
def fcB {β : Type} (b : Bool) (k : Bool → β) : β := match b with
  | true => k true
  | false => k false
theorem fcB_eq {β : Type} (b : Bool) (k : Bool → β) : fcB b k = k b := by cases b <;> rfl
def fcL {α β : Type} (f : α → (α → β) → β) : List α → (List α → β) → β
  | [], k => k []
  | x :: l, k => f x fun x => fcL f l fun l => k (x :: l)
theorem fcL_eq {α β : Type} {f : α → (α → β) → β} (hf : ∀ x k, f x k = k x) : ∀ (l : List α) (k : List α → β), fcL f l k = k l
  | [], _ => rfl
  | x :: l, k => by
    simp only [fcL]
    rw [hf, fcL_eq hf l]
mutual
def fcT {β : Type} : (c : TC) → TCT c → (TCT c → β) → β
  | .b, x, k => fcB x k
  | .i _, n, k => fcI n k
  | .s, x, k => k x
  | .sl c, xs, k => fcL (fun x k => fcT c x k) xs k
  | .st cs, x, k => fcTs cs x k
def fcTs {β : Type} : (cs : List TC) → TCTs cs → (TCTs cs → β) → β
  | [], _, k => k ()
  | c :: cs, x, k => fcT c x.1 fun y => fcTs cs x.2 fun z => k (y, z)
end
mutual
theorem fcT_eq {β : Type} : ∀ (c : TC) (x : TCT c) (k : TCT c → β), fcT c x k = k x
  | .b, x, k => by simp only [fcT]; exact fcB_eq x k
  | .i _, n, k => by simp only [fcT]; exact fcI_eq n k
  | .s, x, k => by simp only [fcT]
  | .sl c, xs, k => by simp only [fcT]; exact fcL_eq (fun x k => fcT_eq c x k) xs k
  | .st cs, x, k => by simp only [fcT]; exact fcTs_eq cs x k
theorem fcTs_eq {β : Type} : ∀ (cs : List TC) (x : TCTs cs) (k : TCTs cs → β), fcTs cs x k = k x
  | [], _, k => by simp only [fcTs]
  | c :: cs, x, k => by simp only [fcTs]; rw [fcT_eq c x.1, fcTs_eq cs x.2]
end
def fcA {β : Type} (x : AV) (k : AV → β) : β := match x with
  | .bool b => fcB b fun b => k (.bool b)
  | .int t n => fcI n fun n => k (.int t n)
  | .ptr a b c d => fcN a fun a => fcN b fun b => fcN c fun c => fcN d fun d => k (.ptr a b c d)
  | .own i => fcN i fun i => k (.own i)
  | .mp i => fcN i fun i => k (.mp i)
  | x => k x
theorem fcA_eq {β : Type} (x : AV) (k : AV → β) : fcA x k = k x := by
  cases x <;> simp only [fcA, fcB_eq, fcI_eq, fcN_eq]
def fcO {β : Type} (o : Ob) (k : Ob → β) : β := match o with
  | .blk b => fcL fcA b.cs fun cs => k (.blk ⟨b.ty, cs⟩)
  | .lit L => fcN L.n fun n => fcL fcA L.cs fun cs => k (.lit ⟨L.ty, L.st, n, cs⟩)
  | .arr A => fcL (fun x k => fcT A.c x k) A.xs fun xs => k (.arr ⟨A.ty, A.c, xs⟩)
  | o => k o
theorem fcO_eq {β : Type} (o : Ob) (k : Ob → β) : fcO o k = k o := by
  cases o with
  | blk b => simp only [fcO]; rw [fcL_eq fcA_eq]
  | lit L => simp only [fcO, fcN_eq]; rw [fcL_eq fcA_eq]
  | arr A => simp only [fcO]; rw [fcL_eq (fun x k => fcT_eq A.c x k)]
  | _ => rfl
def fcOp {β : Type} (o : Option Ob) (k : Option Ob → β) : β := match o with
  | none => k none
  | some o => fcO o fun o => k (some o)
theorem fcOp_eq {β : Type} (o : Option Ob) (k : Option Ob → β) : fcOp o k = k o := by
  cases o with
  | none => rfl
  | some o => simp only [fcOp, fcO_eq]
/-- the first values of a function, worked out -/
def tidyL {α β : Type} (f : α → (List α → β) → β) (tm : Nat → α) : Nat → List α → (List α → β) → β
  | 0, acc, k => k acc
  | n + 1, acc, k => f (tm n) fun xs => tidyL f tm n (xs ++ acc) k
def lookF {α : Type} (l : List α) (tm : Nat → α) (t : Nat) : α := match nth l t with
  | some x => x
  | none => tm t
/-- a state that is worked out -/
def tidyS {β : Type} (s : St) (k : St → β) : β :=
  fcN s.n fun n => fcN s.nx fun nx => tidyL (fun x k => fcA x fun x => k [x]) s.tm n [] fun l => tidyL (fun o k => fcOp o fun o => k [o]) s.hp nx [] fun h =>
    k { s with tm := lookF l s.tm, n := n, hp := lookF h s.hp, nx := nx }
theorem nth_get {β : Type} : ∀ (l : List β) (n : Nat), nth l n = l[n]?
  | [], n => by cases n <;> rfl
  | x :: l, 0 => rfl
  | x :: l, n + 1 => by simpa [nth] using nth_get l n
theorem lookF_eq {α : Type} {l : List α} {tm : Nat → α} (h : ∀ t x, l[t]? = some x → x = tm t) : lookF l tm = tm := by
  funext t
  unfold lookF
  rw [nth_get]
  cases hx : l[t]? with
  | none => rfl
  | some x => exact h t x hx
theorem tidyL_eq {α β : Type} {f : α → (List α → β) → β} (hf : ∀ x k, f x k = k [x]) (tm : Nat → α) (k : List α → β) : ∀ (n : Nat) (acc : List α), (∀ t x, acc[t]? = some x → x = tm (n + t)) → ∃ l, (∀ t x, l[t]? = some x → x = tm t) ∧ tidyL f tm n acc k = k l
  | 0, acc, h => ⟨acc, fun t x ht => by simpa using h t x ht, rfl⟩
  | n + 1, acc, h => by
    simp only [tidyL]
    rw [hf]
    refine tidyL_eq hf tm k n _ fun t x ht => ?_
    cases t with
    | zero => simp at ht; exact ht.symm
    | succ t => rw [h t x (by simpa using ht)]; congr 1; omega
theorem tidyS_eq {β : Type} (s : St) (k : St → β) : tidyS s k = k s := by
  unfold tidyS
  rw [fcN_eq, fcN_eq]
  obtain ⟨l, hl, e⟩ := tidyL_eq (f := fun x k => fcA x fun x => k [x]) (fun x k => fcA_eq x _) s.tm (fun l => tidyL (fun o k => fcOp o fun o => k [o]) s.hp s.nx [] fun h => k { s with tm := lookF l s.tm, n := s.n, hp := lookF h s.hp, nx := s.nx }) s.n [] (fun t x h => by simp at h)
  rw [e]
  obtain ⟨l2, hl2, e2⟩ := tidyL_eq (f := fun o k => fcOp o fun o => k [o]) (fun x k => fcOp_eq x _) s.hp (fun h => k { s with tm := lookF l s.tm, n := s.n, hp := lookF h s.hp, nx := s.nx }) s.nx [] (fun t x h => by simp at h)
  rw [e2, lookF_eq hl, lookF_eq hl2]
def learn (c : Operand) (b : Bool) (s : St) : St :=
  match c with
  | .tmp t => bif Nat.ble s.n t then s else s.put (some t) (.bool b)
  | _ => s

/-- some rounds of a loop; where many are let in (1000), the state is worked out in each eighth round -/
def unroll (td : Bool) : Nat → (St → (XE → St → Tree α) → Tree α) → St → (XE → St → Tree α) → Tree α
  | 0, _, _, _ => .fail
  | n + 1, body, s, K => bif td && Nat.beq (n % 8) 0 then tidyS s fun s => body s fun e s' => match e with
      | .normal => unroll td n body s' K
      | e => K e s'
    else body s fun e s' => match e with
      | .normal => unroll td n body s' K
      | e => K e s'

/-- the first region's number: by which a loop is known -/
def keyOf : Code → Nat
  | .region id _ _ => id
  | .seq a _ => keyOf a
  | .block _ c => keyOf c
  | .loop c => keyOf c + 1000
  | .scope c => keyOf c
  | _ => 0

/-- what is known of a loop: its number, and the states in which it may end -/
abbrev LoopT := Nat → Option (St → Tree (XE × St))

def jumpOf : Code → Option XE
  | .ret => some .ret
  | .exit id => some (.exit id)
  | _ => none
def evC (pu : List (Nat × PureT)) (fn : FuncId) (u : Nat) (L : LoopT) : Code → St → (XE → St → Tree α) → Tree α
  | .skip, s, K => K .normal s
  | .region _ ops false, s, K => bif s.rd && !(ops.toList.all fun o => match o.op with | .defer _ => false | _ => true) then .fail else evOps P cT ops (List.range ops.size) s K
  | .region _ ops true, s, K => bif s.rd && !(ops.toList.all fun o => match o.op with | .defer _ => false | _ => true) then .fail else
      evPlan P pu s.nx ops (fun items s' =>
        bif planOk s.nx ops items && fullOk (lenA items) 0 (masks ops.toList []) then match pans items with
          | some none => evOps P cT ops ((List.range ops.size).drop (lenA items)) s' K
          | some (some (c, p)) => bif c then evOps P cT ops ((List.range ops.size).drop (lenA items)) s' K else K (.panic (pvA p)) (wipe items { s with nx := s.nx + ops.size })
          | none => .fail
        else bif edgesOk ops.toList 0 then evMix P cT pu s.nx ops (masks ops.toList []) K (ops.size + 1) 0 0 (List.replicate ops.size nilIt) { s with nx := s.nx + ops.size }
        else .fail) (List.range ops.size) [] { s with nx := s.nx + ops.size }
  | .seq a b, s, K => evC pu fn u L a s fun e s' => match e with
    | .normal => evC pu fn u L b s' K
    | e => K e s'
  | .cond c a b, s, K => match s.eval c with
    | .bool x => bif x then evC pu fn u L a (learn c true s) K else evC pu fn u L b (learn c false s) K
    | _ => .fail
  | .block id c, s, K => evC pu fn u L c s fun e s' => match e with
    | .exit id' => bif Nat.beq id' id then K .normal s' else K (.exit id') s'
    | e => K e s'
  | .loop c, s, K => match L (keyOf c) with
    | some f => bif s.rd then .fail else (f s).bind fun x => K x.1 x.2
    | none => unroll (Nat.ble 1000 u) u (fun s K => evC pu fn u L c s K) s K
  | .exit id, s, K => K (.exit id) s
  | .ret, s, K => K .ret s
  | .rangeFunc f params assign body, s, K => bif s.rd then .fail else match s.eval f with
    | .fn (.func gf) first captured =>
      cT (.fn gf) (first ++ [.yld (s.nx + 1)] ++ captured) (upd (upd s.hp s.nx (some .dfr)) (s.nx + 1) (some (.lp ⟨s.tm, s.n, fn, params.toList, assign, body, .ready, none, s.nx⟩))) (s.nx + 2) fun v hp nx => match v with
        | .ret _ => match hp (s.nx + 1) with
          | some (.lp r) => match r.st with
            | .busy => .fail
            | _ => match r.pend with
              | none => K .normal { s with hp := upd hp (s.nx + 1) none, nx := nx, df := .mark s.nx :: s.df }
              | some c => match jumpOf c with
                | some e => K e { s with hp := upd hp (s.nx + 1) none, nx := nx, df := .mark s.nx :: s.df }
                | none => .fail
          | _ => .fail
        | .pan x => K (.panic x) { s with hp := hp, nx := nx, df := .mark s.nx :: s.df }
    | _ => .fail
  | .scope c, s, K => evC pu fn u L c s K
  | .label _, s, K => K .normal s
  | _, _, _ => .fail
def isRec : Op → Bool
  | .call c => match c.callee with
    | .builtin .recover => true
    | _ => false
  | _ => false
/-- the code of a deferred function that asks first of all what panicked -/
def evRec (pu : List (Nat × PureT)) (fn : FuncId) (u : Nat) (L : LoopT) (rv : AV) : Code → St → (XE → St → Tree α) → Tree α
  | .seq a b, s, K => evRec pu fn u L rv a s fun e s' => match e with
    | .normal => evC P cT pu fn u L b s' K
    | e => K e s'
  | .block id c, s, K => evRec pu fn u L rv c s fun e s' => match e with
    | .exit id' => bif Nat.beq id' id then K .normal s' else K (.exit id') s'
    | e => K e s'
  | .region _ ops false, s, K => match ops[0]? with
    | some o => bif isRec o.op && (o.guard.isNone && Nat.blt ((o.dst).getD 0) s.n) then evOps P cT ops ((List.range ops.size).drop 1) (s.put o.dst rv) K else .fail
    | none => .fail
  | _, _, _ => .fail
end

/-- the values that a function hands back -/
def resultsA (P : Program) (s : St) : List ResultVar → Option (List AV)
  | [] => some []
  | .tmp t :: l => (resultsA P s l).map (s.tm t :: ·)
  | .cell a t :: l => match s.tm a, isAggT P t, sizeT P t with
    | .ptr id row st col, some agg, some n => match s.hp id with
      | some (.blk b) => bif agg then (bif Nat.ble (row * st + col + n) (lenA b.cs) then (resultsA P s l).map (.agg (takeA n (dropA (row * st + col) b.cs)) :: ·) else none)
          else match nth b.cs (row * st + col) with
            | some x => (resultsA P s l).map (x :: ·)
            | none => none
      | _ => none
    | _, _, _ => none
structure Ctx where
  P : Program
  u : Nat
  fns : List (Nat × Func)
  loops : List ((Nat × Nat) × (St → Tree (XE × St)))
  pures : List (Nat × PureT)
  specs : List (Nat × (Heap → Nat → List AV → Tree (Out × Heap × Nat)))
def assoc2 {β : Type} : List ((Nat × Nat) × β) → Nat → Nat → Option β
  | [], _, _ => none
  | (k, x) :: l, i, j => bif Nat.beq k.1 i && Nat.beq k.2 j then some x else assoc2 l i j
def frameOf : List AV → Nat → AV
  | [], _ => .val undef
  | x :: _, 0 => x
  | _ :: l, n + 1 => frameOf l n

def isFn (X : Ctx) (f : Nat) : Bool := match assoc X.fns f with
  | some _ => true
  | none => false
def pairs2 : List Nat → List AV → (Nat → AV) → Nat → AV
  | p :: ps, x :: xs, tm => pairs2 ps xs (upd tm p x)
  | _, _, tm => tm

section
variable {α : Type} (X : Ctx)
/-- a deferred call, with what it is told that panicked -/
def evDef (cT : CallT α) (f : FuncId) (args : List AV) (rv : AV) (hp : Heap) (nx : Nat) (K : Heap → Nat → Tree α) : Tree α :=
  match assoc X.fns f with
  | none => .fail
  | some fn => match fn.body with
    | none => .fail
    | some c => bif Nat.ble (lenA args) fn.ntmps then
        evRec X.P cT X.pures f X.u (assoc2 X.loops f) rv c { tm := frameOf args, n := fn.ntmps, hp := hp, nx := nx, df := [], rd := false } fun e s => match e with
          | .normal | .ret => match s.df, resultsA X.P s fn.results.toList with
            | [], some _ => K s.hp s.nx
            | _, _ => .fail
          | _ => .fail
      else .fail
/-- what a deferred function is told -/
def toldA : Option AV → AV
  | some x => x
  | none => .val .nilIface
/-- the deferred calls of a function that is left, by a panic or without one: the marks of loops over functions, and calls that ask what panicked -/
def evLeave (cT : CallT α) : List DfA → Option AV → Heap → Nat → (Option AV → Heap → Nat → Tree α) → Tree α
  | [], m, hp, nx, K => K m hp nx
  | .mark id :: l, m, hp, nx, K => match hp id with
    | some .dfr => evLeave cT l m (upd hp id none) nx K
    | _ => .fail
  | .call f args cap :: l, m, hp, nx, K => evDef X cT f (args ++ cap) (toldA m) hp nx fun hp nx => evLeave cT l none hp nx K
end

/-- a call of a function by its code -/
def evBody {α : Type} (X : Ctx) (cT : CallT α) (f : FuncId) (args : List AV) (hp : Heap) (nx : Nat) (K : Out → Heap → Nat → Tree α) : Tree α :=
  match assoc X.fns f with
  | none => .fail
  | some fn =>
    match fn.body with
    | none => .fail
    | some c =>
      bif Nat.ble (lenA args) fn.ntmps then
        evC X.P cT X.pures f X.u (assoc2 X.loops f) c { tm := frameOf args, n := fn.ntmps, hp := hp, nx := nx, df := [], rd := false } fun e s =>
          match e with
          | .normal | .ret => evLeave X cT s.df none s.hp s.nx fun m' hp' nx' => match m' with
            | none => match resultsA X.P { s with hp := hp' } fn.results.toList with
              | some l => K (.ret (tupA l)) hp' nx'
              | none => .fail
            | some _ => .fail
          | .panic x => evLeave X cT s.df (some x) s.hp s.nx fun m' hp' nx' => match m' with
            | none => match resultsA X.P { s with hp := hp' } fn.results.toList with
              | some l => K (.ret (tupA l)) hp' nx'
              | none => .fail
            | some x => K (.pan x) hp' nx'
          | .exit _ => .fail
      else .fail
def evFn {α : Type} (X : Ctx) : Nat → CallT α
  | 0, _, _, _, _, _ => .fail
  | m + 1, .fn f, args, hp, nx, K =>
    match (assoc X.pures f).bind (fun g => (g.run ((viewL X.P hp g.vw args).map (toRO X.P hp))).map fun r => (g.flat || g.fr, viewLIds hp g.vw args, g.pv, r)) with
    | some (fl, vi, pv, c, x) => bif c then K (.ret x) (bif fl then hp else drop1 hp (args.flatMap idsOf ++ vi)) nx else match pv with
      | some p => K (.pan (pvA p)) hp nx
      | none => .fail
    | none =>
    match assoc X.specs f with
    | some c => (c hp nx args).bind fun r => K r.1 r.2.1 r.2.2
    | none => evBody X (evFn X m) f args hp nx K
  | m + 1, .yld id, args, hp, nx, K => match hp id with
    | some (.lp r) => match r.st with
      | .ready => bif Nat.beq (lenA args) (lenA r.params) && (r.params.all (fun p => Nat.blt p r.n) && isFn X r.fn) then
          evC X.P (evFn X m) X.pures r.fn X.u (fun _ => none) r.assign { tm := pairs2 r.params args r.tm, n := r.n, hp := hp, nx := nx, df := [], rd := true } fun e s => match e with
            | .normal => match s.hp id with
              | some (.lp r1) => match r1.st with
                | .ready => evC X.P (evFn X m) X.pures r.fn X.u (fun _ => none) r.body { s with hp := upd s.hp id (some (.lp { r1 with st := .busy })) } fun e s => match s.hp id with
                  | some (.lp r2) => match e with
                    | .normal => K (.ret (.bool true)) (upd s.hp id (some (.lp { r2 with st := .ready, pend := none }))) s.nx
                    | .ret => K (.ret (.bool false)) (upd s.hp id (some (.lp { r2 with st := .done, pend := some .ret }))) s.nx
                    | .exit i => K (.ret (.bool false)) (upd s.hp id (some (.lp { r2 with st := .done, pend := some (.exit i) }))) s.nx
                    | .panic x => match s.df with
                      | [] => K (.pan x) s.hp s.nx
                      | _ => .fail
                  | _ => .fail
                | _ => .fail
              | _ => .fail
            | _ => .fail
        else .fail
      | _ => .fail
    | _ => .fail
end V
end Go.Proofs.Ytgchccljmjmibaa
/- That the symbolic evaluator of the text Va is sound, first part: how symbolic values stand for the model's values; plain data; lists, parts, aggregates. -/
namespace Go.Proofs.Ytgchccljmjmibaa
open Go.RowKit
namespace V

/-- the numbers of blocks; cells that stay as they are; the slices of the call's own lists -/
structure Env where
  at_ : Nat → Option Nat
  mem : Nat → Nat → Option Value
  sv : Nat → Option Value
  low : Nat → Nat → Option Value
  kp : Nat → Option Obj
  sz : Nat
  /-- numbers that stay without a block, and without a slice -/
  dd : Nat → Bool
  ds : Nat → Bool
instance : CoeFun Env (fun _ => Nat → Option Nat) := ⟨Env.at_⟩

/-! plain data in cells that stay -/
def Reads (mem : Nat → Nat → Option Value) (b o : Nat) (vs : List Value) : Prop := ∀ (j : Nat) (u : Value), vs[j]? = some u → mem b (o + j) = some u
def LR {T : Type} (R : T → List Value → Prop) : List T → List Value → Prop
  | [], vs => vs = []
  | x :: xs, vs => ∃ a b, vs = a ++ b ∧ R x a ∧ LR R xs b
mutual
def RepD (mem : Nat → Nat → Option Value) : (c : TC) → TCT c → List Value → Prop
  | .b, x, vs => vs = [.bool x]
  | .i k, n, vs => vs = [.int k n] ∧ inK k n
  | .s, x, vs => vs = [.string x]
  | .sl c, xs, vs => ∃ v, vs = [v] ∧ ((v = .slice none 0 0 ∧ xs = []) ∨ ∃ b o s cap us, v = .slice (some ⟨b, o, s⟩) xs.length cap ∧ xs.length ≤ cap ∧ (cap : Int) ≤ maxK .i64 ∧ ((us = [] ∨ s = none) ∧ Reads mem b o us) ∧ LR (RepD mem c) xs us)
  | .st cs, x, vs => RepDs mem cs x vs
def RepDs (mem : Nat → Nat → Option Value) : (cs : List TC) → TCTs cs → List Value → Prop
  | [], _, vs => vs = []
  | c :: cs, x, vs => ∃ a b, vs = a ++ b ∧ RepD mem c x.1 a ∧ RepDs mem cs x.2 b
end
theorem LR.mono {T : Type} {R S : T → List Value → Prop} (h : ∀ x vs, R x vs → S x vs) : ∀ {xs : List T} {vs : List Value}, LR R xs vs → LR S xs vs
  | [], _, k => k
  | x :: _xs, _vs, ⟨a, b, e, k1, k2⟩ => ⟨a, b, e, h x a k1, LR.mono h k2⟩
theorem Reads.mono {m m' : Nat → Nat → Option Value} (h : ∀ b o v, m b o = some v → m' b o = some v) {b o : Nat} {vs : List Value} (k : Reads m b o vs) : Reads m' b o vs := fun j u hj => h _ _ _ (k j u hj)
mutual
theorem RepD.mono {m m' : Nat → Nat → Option Value} (h : ∀ b o v, m b o = some v → m' b o = some v) : ∀ (c : TC) (x : TCT c) (vs : List Value), RepD m c x vs → RepD m' c x vs
  | .b, _, _, k => by simpa only [RepD] using k
  | .i _, _, _, k => by simpa only [RepD] using k
  | .s, _, _, k => by simpa only [RepD] using k
  | .sl c, xs, vs, k => by
    simp only [RepD] at k ⊢
    obtain ⟨v, e, k⟩ := k
    refine ⟨v, e, ?_⟩
    rcases k with k | ⟨b, o, s, cap, us, k1, k2, k3, k4, k5⟩
    · exact .inl k
    · exact .inr ⟨b, o, s, cap, us, k1, k2, k3, ⟨k4.1, k4.2.mono h⟩, LR.mono (fun x vs => RepD.mono h c x vs) k5⟩
  | .st cs, x, vs, k => by simp only [RepD] at k ⊢; exact RepDs.mono h cs x vs k
theorem RepDs.mono {m m' : Nat → Nat → Option Value} (h : ∀ b o v, m b o = some v → m' b o = some v) : ∀ (cs : List TC) (x : TCTs cs) (vs : List Value), RepDs m cs x vs → RepDs m' cs x vs
  | [], _, _, k => by simpa only [RepDs] using k
  | c :: cs, x, vs, k => by
    simp only [RepDs] at k ⊢
    obtain ⟨a, b, e, k1, k2⟩ := k
    exact ⟨a, b, e, RepD.mono h c x.1 a k1, RepDs.mono h cs x.2 b k2⟩
end
mutual
theorem RepD.len {m : Nat → Nat → Option Value} : ∀ (c : TC) (x : TCT c) (vs : List Value), RepD m c x vs → vs.length = c.size
  | .b, _, _, k => by simp only [RepD] at k; subst k; rfl
  | .i _, _, _, k => by simp only [RepD] at k; rw [k.1]; rfl
  | .s, _, _, k => by simp only [RepD] at k; subst k; rfl
  | .sl c, xs, vs, k => by simp only [RepD] at k; obtain ⟨v, e, _⟩ := k; subst e; rfl
  | .st cs, x, vs, k => by simp only [RepD] at k; simp only [TC.size]; exact RepDs.len cs x vs k
theorem RepDs.len {m : Nat → Nat → Option Value} : ∀ (cs : List TC) (x : TCTs cs) (vs : List Value), RepDs m cs x vs → vs.length = sizes cs
  | [], _, _, k => by simp only [RepDs] at k; subst k; rfl
  | c :: cs, x, vs, k => by
    simp only [RepDs] at k
    obtain ⟨a, b, e, k1, k2⟩ := k
    subst e
    simp only [List.length_append, sizes, RepD.len c x.1 a k1, RepDs.len cs x.2 b k2]
end
theorem LR.len {T : Type} {R : T → List Value → Prop} {n : Nat} (h : ∀ x vs, R x vs → vs.length = n) : ∀ {xs : List T} {vs : List Value}, LR R xs vs → vs.length = xs.length * n
  | [], _, k => by simp only [LR] at k; subst k; simp
  | x :: xs, vs, ⟨a, b, e, k1, k2⟩ => by
    subst e
    simp only [List.length_append, h x a k1, LR.len h k2, List.length_cons, Nat.add_mul, Nat.one_mul, Nat.add_comm]
theorem getA_eq {β : Type} (l : List β) (n : Nat) (d : β) : getA l n d = l.getD n d := by
  induction l generalizing n with
  | nil => simp [getA]
  | cons x l ih => cases n <;> simp [getA, ih]
theorem LR.get {T : Type} {R : T → List Value → Prop} {n : Nat} (h : ∀ x vs, R x vs → vs.length = n) : ∀ {xs : List T} {vs : List Value} (i : Nat) (d : T), LR R xs vs → i < xs.length → R (getA xs i d) ((vs.drop (i * n)).take n)
  | [], _, i, _, _, hi => by simp at hi
  | x :: xs, vs, i, d, ⟨a, b, e, k1, k2⟩, hi => by
    subst e
    have ha := h x a k1
    cases i with
    | zero => simp only [getA, Nat.zero_mul, List.drop_zero]; rw [← ha, List.take_left]; exact k1
    | succ i =>
      have := LR.get h i d k2 (by simpa using hi)
      simp only [getA, Nat.add_mul, Nat.one_mul]
      rw [show i * n + n = a.length + i * n by omega, List.drop_length_add_append]
      exact this
theorem LR.append {T : Type} {R : T → List Value → Prop} : ∀ {xs ys : List T} {vs us : List Value}, LR R xs vs → LR R ys us → LR R (xs ++ ys) (vs ++ us)
  | [], ys, vs, us, h, k => by simp only [LR] at h; subst h; simpa using k
  | x :: xs, ys, vs, us, ⟨a, b, e, k1, k2⟩, k => by
    subst e
    exact ⟨a, b ++ us, by simp, k1, LR.append k2 k⟩
theorem setA_eq {β : Type} (l : List β) (n : Nat) (y : β) : setA l n y = l.set n y := by
  induction l generalizing n with
  | nil => simp [setA]
  | cons x l ih => cases n <;> simp [setA, ih]
theorem setsA_past : ∀ (us a b : List Value) (k : Nat), setsA (a ++ b) (a.length + k) us = a ++ setsA b k us
  | [], a, b, k => rfl
  | u :: us, a, b, k => by
    simp only [setsA, setA_eq]
    have e : (a ++ b).set (a.length + k) u = a ++ b.set k u := by
      rw [List.set_append_right _ _ (by omega)]; congr 2; omega
    rw [e, Nat.add_assoc]
    exact setsA_past us a _ (k + 1)
theorem setsA_front : ∀ (us a b : List Value), us.length = a.length → setsA (a ++ b) 0 us = us ++ b
  | [], a, b, h => by cases a <;> simp [setsA] at h ⊢
  | u :: us, [], b, h => by simp at h
  | u :: us, x :: a, b, h => by
    simp only [setsA, setA_eq, List.cons_append, List.set_cons_zero]
    have := setsA_past us [u] (a ++ b) 0
    simp only [List.cons_append, List.nil_append, List.length_singleton, Nat.add_zero, Nat.zero_add] at this ⊢
    rw [this, setsA_front us a b (by simpa using h)]
theorem LR.set {T : Type} {R : T → List Value → Prop} {n : Nat} (h : ∀ x vs, R x vs → vs.length = n) : ∀ {xs : List T} {vs us : List Value} (i : Nat) (y : T), LR R xs vs → R y us → i < xs.length → LR R (xs.set i y) (setsA vs (i * n) us)
  | [], _, _, i, _, _, _, hi => by simp at hi
  | x :: xs, vs, us, i, y, ⟨a, b, e, k1, k2⟩, hy, hi => by
    subst e
    have ha := h x a k1
    have hu := h y us hy
    cases i with
    | zero =>
      simp only [List.set_cons_zero, Nat.zero_mul]
      refine ⟨us, b, ?_, hy, k2⟩
      exact setsA_front us a b (by omega)
    | succ i =>
      simp only [List.set_cons_succ, Nat.add_mul, Nat.one_mul]
      refine ⟨a, setsA b (i * n) us, ?_, k1, LR.set h i y k2 hy (by simpa using hi)⟩
      rw [show i * n + n = a.length + i * n by omega]
      exact setsA_past us a b (i * n)
theorem LR.take {T : Type} {R : T → List Value → Prop} {n : Nat} (h : ∀ x vs, R x vs → vs.length = n) : ∀ {xs : List T} {vs : List Value} (i : Nat), LR R xs vs → i ≤ xs.length → LR R (xs.take i) (vs.take (i * n))
  | xs, vs, 0, _, _ => by simp [LR]
  | [], _, i + 1, _, hi => by simp at hi
  | x :: xs, vs, i + 1, ⟨a, b, e, k1, k2⟩, hi => by
    subst e
    have ha := h x a k1
    refine ⟨a, b.take (i * n), ?_, k1, LR.take h i k2 (by simpa using hi)⟩
    rw [Nat.add_mul, Nat.one_mul, show i * n + n = a.length + i * n by omega, List.take_length_add_append]
theorem LR.drop {T : Type} {R : T → List Value → Prop} {n : Nat} (h : ∀ x vs, R x vs → vs.length = n) : ∀ {xs : List T} {vs : List Value} (i : Nat), LR R xs vs → i ≤ xs.length → LR R (xs.drop i) (vs.drop (i * n))
  | xs, vs, 0, k, _ => by simpa using k
  | [], _, i + 1, _, hi => by simp at hi
  | x :: xs, vs, i + 1, ⟨a, b, e, k1, k2⟩, hi => by
    subst e
    have ha := h x a k1
    have := LR.drop h i k2 (by simpa using hi)
    rw [Nat.add_mul, Nat.one_mul, show i * n + n = a.length + i * n by omega, List.drop_length_add_append]
    simpa using this

mutual
def Rep (σ : Env) : AV → Value → Prop
  | .bool b, v => v = .bool b
  | .int k n, v => v = .int k n ∧ inK k n
  | .ptr id row st col, v => ∃ b, σ id = some b ∧ v = .pointer (some ⟨b, row * st + col, none⟩)
  | .nilp, v => v = .pointer none
  | .sl id off _ len cap, v => ((len : Int) ≤ maxK .i64 ∧ len ≤ cap) ∧ (cap : Int) ≤ maxK .i64 ∧ ∃ b, σ id = some b ∧ v = .slice (some ⟨b, off, none⟩) len cap
  | .val u, v => v = u
  | .agg cs, v => ∃ vs, RepL σ cs vs ∧ v = .agg vs.toArray
  | .tup cs, v => ∃ vs, RepL σ cs vs ∧ v = .tuple vs.toArray
  | .fn f a c, v => ∃ x y, RepL σ a x ∧ RepL σ c y ∧ v = .func f x.toArray y.toArray
  | .ro c xs, v => RepD σ.mem (.sl c) xs [v]
  | .rop c x col, v => ∃ b o vs, v = .pointer (some ⟨b, o + col, none⟩) ∧ Reads σ.mem b o vs ∧ RepD σ.mem c x vs
  | .own id, v => σ.sv id = some v ∧ ∃ a n cap, v = .slice a n cap
  | .mp id, v => ∃ b, σ id = some b ∧ v = .map (some b)
  | .yld id, v => ∃ b, σ id = some b ∧ v = .func (.yield b) #[] #[]
  | .stp id, v => σ.sv id = some v ∧ ∃ n : Int, v = .int .i64 n
  | .win id row st n, v => ∃ ad len c ap cap, σ.sv id = some (.slice ad len c) ∧ v = .slice ap n cap ∧ row + n ≤ len ∧ (ap = none → cap = 0) ∧ ∀ g, ad = some ⟨g, 0, none⟩ → 0 < n → ap = some ⟨g, row * st, none⟩
  | .ifc t x, v => ∃ u, Rep σ x u ∧ v = .iface t u
  | .top, _ => True
def RepL (σ : Env) : List AV → List Value → Prop
  | [], vs => vs = []
  | x :: xs, vs => ∃ v us, vs = v :: us ∧ Rep σ x v ∧ RepL σ xs us
end

structure Ext3 (σ τ : Env) : Prop where
  at_ : ∀ i b, σ i = some b → τ i = some b
  mem : ∀ b o v, σ.mem b o = some v → τ.mem b o = some v
  sv : ∀ i v, σ.sv i = some v → τ.sv i = some v
structure Ext (σ τ : Env) : Prop where
  at_ : ∀ i b, σ i = some b → τ i = some b
  mem : ∀ b o v, σ.mem b o = some v → τ.mem b o = some v
  sv : ∀ i v, σ.sv i = some v → τ.sv i = some v
  low : τ.low = σ.low
  kp : τ.kp = σ.kp ∧ τ.sz = σ.sz ∧ τ.dd = σ.dd ∧ τ.ds = σ.ds
theorem Ext.refl (σ : Env) : Ext σ σ := ⟨fun _ _ h => h, fun _ _ _ h => h, fun _ _ h => h, rfl, rfl, rfl, rfl, rfl⟩
theorem Ext.trans {σ τ ρ : Env} (h : Ext σ τ) (k : Ext τ ρ) : Ext σ ρ := ⟨fun i b x => k.1 i b (h.1 i b x), fun b o v x => k.2 b o v (h.2 b o v x), fun i v x => k.3 i v (h.3 i v x), k.4.trans h.4, k.5.1.trans h.5.1, k.5.2.1.trans h.5.2.1, k.5.2.2.1.trans h.5.2.2.1, k.5.2.2.2.trans h.5.2.2.2⟩

mutual
theorem Rep.mono3 {σ τ : Env} (e : Ext3 σ τ) : ∀ (x : AV) (v : Value), Rep σ x v → Rep τ x v
  | .bool _, _, h => by simpa only [Rep] using h
  | .int _ _, _, h => by simpa only [Rep] using h
  | .ptr id row st col, v, h => by
    simp only [Rep] at h ⊢
    obtain ⟨b, h1, h2⟩ := h
    exact ⟨b, e.1 _ _ h1, h2⟩
  | .nilp, _, h => by simpa only [Rep] using h
  | .sl id off st len cap, v, h => by
    simp only [Rep] at h ⊢
    obtain ⟨h0, h0', b, h1, h2⟩ := h
    exact ⟨h0, h0', b, e.1 _ _ h1, h2⟩
  | .val _, _, h => by simpa only [Rep] using h
  | .agg cs, v, h => by
    simp only [Rep] at h ⊢
    obtain ⟨vs, h1, h2⟩ := h
    exact ⟨vs, RepL.mono3 e cs vs h1, h2⟩
  | .tup cs, v, h => by
    simp only [Rep] at h ⊢
    obtain ⟨vs, h1, h2⟩ := h
    exact ⟨vs, RepL.mono3 e cs vs h1, h2⟩
  | .fn f a c, v, h => by
    simp only [Rep] at h ⊢
    obtain ⟨x, y, h1, h2, h3⟩ := h
    exact ⟨x, y, RepL.mono3 e a x h1, RepL.mono3 e c y h2, h3⟩
  | .ro c xs, v, h => by simp only [Rep] at h ⊢; exact RepD.mono e.2 _ _ _ h
  | .rop c x col, v, h => by
    simp only [Rep] at h ⊢
    obtain ⟨b, o, vs, h1, h2, h3⟩ := h
    exact ⟨b, o, vs, h1, h2.mono e.2, RepD.mono e.2 _ _ _ h3⟩
  | .own id, v, h => by simp only [Rep] at h ⊢; exact ⟨e.3 _ _ h.1, h.2⟩
  | .mp id, v, h => by
    simp only [Rep] at h ⊢
    obtain ⟨b, h1, h2⟩ := h
    exact ⟨b, e.1 _ _ h1, h2⟩
  | .yld id, v, h => by
    simp only [Rep] at h ⊢
    obtain ⟨b, h1, h2⟩ := h
    exact ⟨b, e.1 _ _ h1, h2⟩
  | .stp id, v, h => by
    simp only [Rep] at h ⊢
    exact ⟨e.3 _ _ h.1, h.2⟩
  | .win id row st n, v, h => by
    simp only [Rep] at h ⊢
    obtain ⟨ad, len, c, ap, cap, h1, h2⟩ := h
    exact ⟨ad, len, c, ap, cap, e.3 _ _ h1, h2⟩
  | .ifc t x, v, h => by
    simp only [Rep] at h ⊢
    obtain ⟨u, h1, h2⟩ := h
    exact ⟨u, Rep.mono3 e x u h1, h2⟩
  | .top, _, _ => by simp only [Rep]
theorem RepL.mono3 {σ τ : Env} (e : Ext3 σ τ) : ∀ (xs : List AV) (vs : List Value), RepL σ xs vs → RepL τ xs vs
  | [], _, h => by simpa only [RepL] using h
  | x :: xs, vs, h => by
    simp only [RepL] at h ⊢
    obtain ⟨v, us, h1, h2, h3⟩ := h
    exact ⟨v, us, h1, Rep.mono3 e x v h2, RepL.mono3 e xs us h3⟩
end
theorem Rep.mono {σ τ : Env} (e : Ext σ τ) (x : AV) (v : Value) (h : Rep σ x v) : Rep τ x v := Rep.mono3 ⟨e.1, e.2, e.3⟩ x v h
theorem RepL.mono {σ τ : Env} (e : Ext σ τ) (xs : List AV) (vs : List Value) (h : RepL σ xs vs) : RepL τ xs vs := RepL.mono3 ⟨e.1, e.2, e.3⟩ xs vs h

theorem lenA_eq {β : Type} (l : List β) : lenA l = l.length := by induction l <;> simp [lenA, *]
theorem nth_eq {β : Type} (l : List β) (n : Nat) : nth l n = l[n]? := by
  induction l generalizing n with
  | nil => simp [nth]
  | cons x l ih => cases n <;> simp [nth, ih]
theorem takeA_eq {β : Type} (n : Nat) (l : List β) : takeA n l = l.take n := by
  induction n generalizing l with
  | zero => simp [takeA]
  | succ n ih => cases l <;> simp [takeA, ih]
theorem dropA_eq {β : Type} (n : Nat) (l : List β) : dropA n l = l.drop n := by
  induction n generalizing l with
  | zero => simp [dropA]
  | succ n ih => cases l <;> simp [dropA, ih]
theorem repL_iff {σ : Env} : ∀ {xs : List AV} {vs : List Value}, RepL σ xs vs ↔ xs.length = vs.length ∧ ∀ (i : Nat) (x : AV) (v : Value), xs[i]? = some x → vs[i]? = some v → Rep σ x v
  | [], vs => by
    simp only [RepL]
    constructor
    · rintro rfl; simp
    · rintro ⟨h, _⟩; exact List.eq_nil_of_length_eq_zero (by simpa using h.symm)
  | x :: xs, vs => by
    simp only [RepL]
    constructor
    · rintro ⟨v, us, rfl, h1, h2⟩
      obtain ⟨h3, h4⟩ := repL_iff.1 h2
      refine ⟨by simp [h3], fun i y u hy hu => ?_⟩
      cases i with
      | zero => simp at hy hu; subst hy; subst hu; exact h1
      | succ i => exact h4 i y u (by simpa using hy) (by simpa using hu)
    · rintro ⟨h1, h2⟩
      cases vs with
      | nil => simp at h1
      | cons v us =>
        refine ⟨v, us, rfl, h2 0 x v rfl rfl, repL_iff.2 ⟨by simpa using h1, fun i y u hy hu => h2 (i + 1) y u (by simpa using hy) (by simpa using hu)⟩⟩

theorem RepL.length {σ : Env} {xs : List AV} {vs : List Value} (h : RepL σ xs vs) : xs.length = vs.length := (repL_iff.1 h).1
theorem RepL.get {σ : Env} {xs : List AV} {vs : List Value} (h : RepL σ xs vs) {i : Nat} {x : AV} (hx : xs[i]? = some x) : ∃ v, vs[i]? = some v ∧ Rep σ x v := by
  obtain ⟨h1, h2⟩ := repL_iff.1 h
  have hi : i < vs.length := by rw [← h1]; exact (List.getElem?_eq_some_iff.1 hx).1
  exact ⟨vs[i], List.getElem?_eq_getElem hi, h2 i x _ hx (List.getElem?_eq_getElem hi)⟩
theorem RepL.take {σ : Env} {xs : List AV} {vs : List Value} (h : RepL σ xs vs) (n : Nat) : RepL σ (xs.take n) (vs.take n) := by
  obtain ⟨h1, h2⟩ := repL_iff.1 h
  refine repL_iff.2 ⟨by simp [h1], fun i x v hx hv => ?_⟩
  simp only [List.getElem?_take] at hx hv
  split at hx
  · rename_i hi; rw [if_pos hi] at hv; exact h2 i x v hx hv
  · simp at hx
theorem RepL.drop {σ : Env} {xs : List AV} {vs : List Value} (h : RepL σ xs vs) (n : Nat) : RepL σ (xs.drop n) (vs.drop n) := by
  obtain ⟨h1, h2⟩ := repL_iff.1 h
  refine repL_iff.2 ⟨by simp [h1], fun i x v hx hv => ?_⟩
  simp only [List.getElem?_drop] at hx hv
  exact h2 _ x v hx hv
theorem RepL.append {σ : Env} {xs ys : List AV} {vs us : List Value} (h : RepL σ xs vs) (k : RepL σ ys us) : RepL σ (xs ++ ys) (vs ++ us) := by
  obtain ⟨h1, h2⟩ := repL_iff.1 h
  obtain ⟨k1, k2⟩ := repL_iff.1 k
  refine repL_iff.2 ⟨by simp [h1, k1], fun i x v hx hv => ?_⟩
  rw [List.getElem?_append] at hx hv
  rw [h1] at hx
  split at hx
  · rename_i hi; rw [if_pos hi] at hv; exact h2 i x v hx hv
  · rename_i hi; rw [if_neg hi] at hv; exact k2 _ x v hx hv
theorem RepL.set {σ : Env} {xs : List AV} {vs : List Value} (h : RepL σ xs vs) {n : Nat} {y : AV} {u : Value} (hy : Rep σ y u) : RepL σ (xs.set n y) (vs.set n u) := by
  obtain ⟨h1, h2⟩ := repL_iff.1 h
  refine repL_iff.2 ⟨by simp [h1], fun i x v hx hv => ?_⟩
  rw [List.getElem?_set] at hx hv
  by_cases hni : n = i
  · subst hni
    by_cases hlt : n < xs.length
    · have hlt' : n < vs.length := h1 ▸ hlt
      simp [hlt] at hx; simp [hlt'] at hv; subst hx; subst hv; exact hy
    · simp [hlt] at hx
  · simp [hni] at hx hv; exact h2 i x v hx hv
theorem RepL.map {σ : Env} {β : Type} {f : β → AV} {g : β → Value} (h : ∀ b, Rep σ (f b) (g b)) : ∀ (l : List β), RepL σ (l.map f) (l.map g)
  | [] => by simp [RepL]
  | b :: l => by simp only [List.map_cons, RepL]; exact ⟨g b, l.map g, rfl, h b, RepL.map h l⟩

theorem inKB_spec {k : IntKind} {n : Int} : inKB k n = true ↔ inK k n := by simp [inKB, inK]
theorem wrap_in (k : IntKind) (n : Int) : inK k (k.wrap n) := by
  unfold inK IntKind.wrap
  cases k <;> simp [IntKind.bits, IntKind.signed, minK, maxK] <;> (try split) <;> omega
theorem rep_int {σ : Env} {k : IntKind} {n : Int} (h : inK k n) : Rep σ (.int k n) (.int k n) := by simp only [Rep]; exact ⟨trivial, h⟩
theorem rep_wrap {σ : Env} (k : IntKind) (n : Int) : Rep σ (.int k (k.wrap n)) (.int k (k.wrap n)) := rep_int (wrap_in k n)
theorem rep_bool {σ : Env} (b : Bool) : Rep σ (.bool b) (.bool b) := by simp only [Rep]
theorem rep_ofCell (σ : Env) (v : Value) : Rep σ (ofCell v) v := by
  cases v with
  | func f a c =>
    simp only [ofCell]
    cases h : a.isEmpty && c.isEmpty with
    | true =>
      simp at h
      simp only [cond_true, Rep]
      exact ⟨[], [], by simp [RepL], by simp [RepL], by simp [h.1, h.2]⟩
    | false => simp [Rep]
  | pointer a => cases a <;> simp [ofCell, Rep]
  | int k n =>
    simp only [ofCell]
    cases h : inKB k n with
    | true => exact rep_int (inKB_spec.1 h)
    | false => simp [Rep]
  | _ => simp [ofCell, Rep]
theorem repL_ofCell (σ : Env) (l : List Value) : RepL σ (l.map ofCell) l := by
  have := RepL.map (σ := σ) (f := ofCell) (g := id) (fun v => rep_ofCell σ v) l
  simpa using this
theorem rep_ofV (σ : Env) (v : Value) : Rep σ (ofV v) v := by
  cases v with
  | agg cs => simp only [ofV, Rep]; exact ⟨cs.toList, repL_ofCell σ _, by simp⟩
  | _ => simp only [ofV]; exact rep_ofCell σ _
theorem slD_one {m : Nat → Nat → Option Value} {c : TC} {xs : List (TCT c)} {v : Value} (h : RepD m (.sl c) xs [v]) : v.oneCell' = true := by
  simp only [RepD, List.cons.injEq, and_true] at h
  obtain ⟨v', rfl, h⟩ := h
  rcases h with ⟨rfl, _⟩ | ⟨_, _, _, _, _, rfl, _⟩ <;> rfl
theorem one_cell {σ : Env} {x : AV} {v : Value} (h : Rep σ x v) (ho : one x = true) : v.oneCell' = true := by
  cases x with
  | ro c xs => simp only [Rep] at h; exact slD_one h
  | rop c x col => simp only [Rep] at h; obtain ⟨_, _, _, rfl, _⟩ := h; rfl
  | own id => simp only [Rep] at h; obtain ⟨_, _, _, _, rfl⟩ := h; rfl
  | mp id => simp only [Rep] at h; obtain ⟨_, _, rfl⟩ := h; rfl
  | yld id => simp only [Rep] at h; obtain ⟨_, _, rfl⟩ := h; rfl
  | stp id => simp only [Rep] at h; obtain ⟨_, _, rfl⟩ := h; rfl
  | win id row st n => simp only [Rep] at h; obtain ⟨_, _, _, _, _, _, rfl, _⟩ := h; rfl
  | ifc t x => simp only [Rep] at h; obtain ⟨_, _, rfl⟩ := h; rfl
  | bool b => simp only [Rep] at h; subst h; rfl
  | int k n => simp only [Rep] at h; obtain ⟨rfl, _⟩ := h; rfl
  | ptr id row st col => simp only [Rep] at h; obtain ⟨_, _, rfl⟩ := h; rfl
  | nilp => simp only [Rep] at h; subst h; rfl
  | sl id off st len cap => simp only [Rep] at h; obtain ⟨_, _, _, _, rfl⟩ := h; rfl
  | val u => simp only [Rep] at h; subst h; exact ho
  | fn f a c => simp only [Rep] at h; obtain ⟨_, _, _, _, rfl⟩ := h; rfl
  | agg cs => simp [one] at ho
  | tup cs => simp [one] at ho
  | top => simp [one] at ho
theorem one_cells {v : Value} (h : v.oneCell' = true) : v.cells = #[v] := by cases v <;> first | rfl | (simp [Value.oneCell'] at h)
theorem RepL.ones {σ : Env} : ∀ {xs : List AV} {us : List Value}, RepL σ xs us → xs.all one = true → ∀ y ∈ us, y.oneCell' = true
  | [], us, h, _ => by simp only [RepL] at h; subst h; simp
  | x :: xs, us, h, ho => by
    simp only [RepL] at h
    obtain ⟨v, vs, rfl, h1, h2⟩ := h
    simp only [List.all_cons, Bool.and_eq_true] at ho
    intro y hy
    rcases List.mem_cons.1 hy with rfl | hy
    · exact one_cell h1 ho.1
    · exact RepL.ones h2 ho.2 y hy
theorem rep_cells {σ : Env} {x : AV} {v : Value} {cs : List AV} (h : Rep σ x v) (hc : cellsA x = some cs) : RepL σ cs v.cells.toList := by
  have key : ∀ (y : AV), Rep σ y v → (bif one y then some [y] else none) = some cs → RepL σ cs v.cells.toList := by
    intro y hy hh
    cases ho : one y with
    | false => simp [ho] at hh
    | true =>
      simp [ho] at hh; subst hh
      rw [one_cells (one_cell hy ho)]
      simp only [RepL]
      exact ⟨v, [], by simp, hy, rfl⟩
  cases x with
  | agg xs =>
    simp [cellsA] at hc; subst hc
    simp only [Rep] at h
    obtain ⟨vs, h1, rfl⟩ := h
    simpa [Value.cells] using h1
  | _ => exact key _ h (by simpa [cellsA] using hc)

theorem setsA_rep {σ : Env} : ∀ (ys : List AV) (us : List Value) (off : Nat) (xs : List AV) (vs : List Value), RepL σ xs vs → RepL σ ys us → RepL σ (setsA xs off ys) (setsA vs off us)
  | [], us, off, xs, vs, h, k => by simp only [RepL] at k; subst k; simpa [setsA] using h
  | y :: ys, us, off, xs, vs, h, k => by
    simp only [RepL] at k
    obtain ⟨u, us', rfl, k1, k2⟩ := k
    simp only [setsA, setA_eq]
    exact setsA_rep ys us' (off + 1) _ _ (h.set k1) k2
theorem setsA_length {β : Type} : ∀ (ys : List β) (off : Nat) (xs : List β), (setsA xs off ys).length = xs.length
  | [], _, _ => rfl
  | y :: ys, off, xs => by simp [setsA, setA_eq, setsA_length ys]
theorem foldl_sets : ∀ (l : List Value) (off k : Nat) (cur : Array Value), (l.zipIdx k).foldl (fun cs (p : Value × Nat) => cs.setIfInBounds (off + p.2) p.1) cur = (setsA cur.toList (off + k) l).toArray
  | [], off, k, cur => by simp [setsA]
  | v :: l, off, k, cur => by
    simp only [List.zipIdx_cons, List.foldl_cons, setsA, setA_eq]
    rw [foldl_sets l off (k + 1)]
    simp [Nat.add_assoc]

theorem fill_rep {σ : Env} (place : Nat → Option (Nat × Nat)) : ∀ (parts : List (Nat × AV)) (qs : List (Nat × Value)) (xs : List AV) (vs : List Value) (r : List AV), RepL σ xs vs →
    (parts.length = qs.length ∧ ∀ (i : Nat) (p : Nat × AV) (q : Nat × Value), parts[i]? = some p → qs[i]? = some q → p.1 = q.1 ∧ Rep σ p.2 q.2) →
    fillA place xs parts = some r → ∃ us, Instr.fill place vs.toArray qs = some us.toArray ∧ RepL σ r us ∧ us.length = vs.length
  | [], qs, xs, vs, r, h, hp, hf => by
    have : qs = [] := List.eq_nil_of_length_eq_zero (by simpa using hp.1.symm)
    subst this
    simp [fillA] at hf; subst hf
    exact ⟨vs, by simp [Instr.fill], h, rfl⟩
  | (i, x) :: parts, qs, xs, vs, r, h, hp, hf => by
    cases qs with
    | nil => simp at hp
    | cons q qs =>
      obtain ⟨j, v⟩ := q
      have h0 := hp.2 0 (i, x) (j, v) rfl rfl
      simp only at h0
      obtain ⟨rfl, hx⟩ := h0
      simp only [fillA] at hf
      cases hpl : place i with
      | none => simp [hpl] at hf
      | some os =>
        obtain ⟨off, size⟩ := os
        cases hc : cellsA x with
        | none => simp [hpl, hc] at hf
        | some cs =>
          simp only [hpl, hc] at hf
          have hcr := rep_cells hx hc
          have hl := hcr.length
          cases hb : (Nat.beq (lenA cs) size && Nat.ble (off + lenA cs) (lenA xs)) with
          | false => simp [hb] at hf
          | true =>
            simp only [hb, cond_true] at hf
            simp only [Bool.and_eq_true, Nat.beq_eq, Nat.ble_eq, lenA_eq] at hb
            have hlen := h.length
            have ih := fill_rep place parts qs (setsA xs off cs) (setsA vs off v.cells.toList) r (setsA_rep _ _ _ _ _ h hcr)
              ⟨by simpa using hp.1, fun k p q hp' hq' => hp.2 (k + 1) p q (by simpa using hp') (by simpa using hq')⟩ hf
            obtain ⟨us, hu1, hu2, hu3⟩ := ih
            refine ⟨us, ?_, hu2, by rw [hu3, setsA_length]⟩
            simp only [Instr.fill, hpl]
            have hsz : v.cells.size = cs.length := by rw [hl]; simp
            have hvs : vs.toArray.size = xs.length := by simp [hlen]
            rw [if_neg (by simp only [hsz, hvs]; simp; exact ⟨hb.1, hb.2⟩)]
            have hfold : v.cells.zipIdx.foldl (fun cs (p : Value × Nat) => cs.setIfInBounds (off + p.2) p.1) vs.toArray = (setsA vs off v.cells.toList).toArray := by
              have := foldl_sets v.cells.toList off 0 vs.toArray
              simp only [Nat.add_zero] at this
              rw [← this, ← Array.foldl_toList]
              congr 1
              simp
            rw [hfold]
            exact hu1

theorem repL_app {σ : Env} : ∀ {xs ys : List AV} {vs : List Value}, RepL σ (xs ++ ys) vs → ∃ a b, vs = a ++ b ∧ RepL σ xs a ∧ RepL σ ys b
  | [], ys, vs, h => ⟨[], vs, rfl, by simp [RepL], h⟩
  | x :: xs, ys, vs, h => by
    simp only [List.cons_append, RepL] at h
    obtain ⟨v, us, rfl, h1, h2⟩ := h
    obtain ⟨a, b, rfl, h3, h4⟩ := repL_app h2
    exact ⟨v :: a, b, rfl, by simp only [RepL]; exact ⟨v, a, rfl, h1, h3⟩, h4⟩
mutual
theorem enc_rep {σ : Env} : ∀ (c : TC) (x : TCT c) (vs : List Value), RepD σ.mem c x vs → RepL σ (enc c x) vs
  | .b, x, vs, h => by simp only [RepD] at h; simp only [enc, RepL, Rep]; exact ⟨_, _, h, rfl, rfl⟩
  | .i k, n, vs, h => by simp only [RepD] at h; simp only [enc, RepL, Rep]; exact ⟨_, _, h.1, ⟨rfl, h.2⟩, rfl⟩
  | .s, x, vs, h => by simp only [RepD] at h; simp only [enc, RepL, Rep]; exact ⟨_, _, h, rfl, rfl⟩
  | .sl c, xs, vs, h => by
    have h0 := h
    simp only [RepD] at h
    obtain ⟨v, rfl, _⟩ := h
    simp only [enc, RepL, Rep]
    exact ⟨v, [], rfl, h0, rfl⟩
  | .st cs, x, vs, h => by simp only [RepD] at h; simp only [enc]; exact encs_rep cs x vs h
theorem encs_rep {σ : Env} : ∀ (cs : List TC) (x : TCTs cs) (vs : List Value), RepDs σ.mem cs x vs → RepL σ (encs cs x) vs
  | [], _, vs, h => by simpa only [RepDs, encs, RepL] using h
  | c :: cs, x, vs, h => by
    simp only [RepDs] at h
    obtain ⟨a, b, rfl, h1, h2⟩ := h
    show RepL σ (enc c x.1 ++ encs cs x.2) (a ++ b)
    exact (enc_rep c x.1 a h1).append (encs_rep cs x.2 b h2)
end
theorem castL_rep {c d : TC} {xs : List (TCT c)} {ys : List (TCT d)} (h : castL c d xs = some ys) {Q : (e : TC) → List (TCT e) → Prop} (k : Q c xs) : Q d ys := by
  unfold castL at h
  split at h
  · rename_i hb
    have hcd := TC.beq_eq c d hb
    subst hcd
    simp only [Option.some.injEq] at h
    subst h
    exact k
  · simp at h
mutual
theorem dec_rep {σ : Env} : ∀ (c : TC) (l : List AV) (vs : List Value) (x : TCT c) (r : List AV), dec c l = some (x, r) → RepL σ l vs → ∃ a b, vs = a ++ b ∧ RepD σ.mem c x a ∧ RepL σ r b
  | .b, l, vs, x, r, h, k => by
    simp only [dec] at h
    unfold decB at h
    split at h <;> simp at h
    obtain ⟨rfl, rfl⟩ := h
    simp only [RepL, Rep] at k
    obtain ⟨v, us, rfl, rfl, k2⟩ := k
    exact ⟨[_], us, rfl, by simp only [RepD], k2⟩
  | .i j, l, vs, x, r, h, k => by
    simp only [dec] at h
    unfold decI at h
    split at h <;> try (simp at h; done)
    rename_i j' n l'
    cases hj : decide (j' = j) with
    | false => simp [hj] at h
    | true =>
      simp only [hj, cond_true, Option.some.injEq, Prod.mk.injEq] at h
      obtain ⟨rfl, rfl⟩ := h
      have := of_decide_eq_true hj
      subst this
      simp only [RepL, Rep] at k
      obtain ⟨v, us, rfl, ⟨rfl, k1⟩, k2⟩ := k
      exact ⟨[_], us, rfl, by simp only [RepD]; exact ⟨trivial, k1⟩, k2⟩
  | .s, l, vs, x, r, h, k => by
    simp only [dec] at h
    unfold decS at h
    split at h <;> simp at h
    obtain ⟨rfl, rfl⟩ := h
    simp only [RepL, Rep] at k
    obtain ⟨v, us, rfl, rfl, k2⟩ := k
    exact ⟨[_], us, rfl, by simp only [RepD], k2⟩
  | .sl c, l, vs, x, r, h, k => by
    simp only [dec] at h
    unfold decSl at h
    split at h <;> try (simp at h; done)
    · rename_i d xs l'
      split at h
      · rename_i ys hys
        simp only [Option.some.injEq, Prod.mk.injEq] at h
        obtain ⟨rfl, rfl⟩ := h
        simp only [RepL, Rep] at k
        obtain ⟨v, us, rfl, k1, k2⟩ := k
        exact ⟨[v], us, rfl, castL_rep hys (Q := fun e zs => RepD σ.mem (.sl e) zs [v]) k1, k2⟩
      · simp at h
    · rename_i l'
      simp only [Option.some.injEq, Prod.mk.injEq] at h
      obtain ⟨rfl, rfl⟩ := h
      simp only [RepL, Rep] at k
      obtain ⟨v, us, rfl, rfl, k2⟩ := k
      exact ⟨[_], us, rfl, by simp only [RepD]; exact ⟨_, rfl, .inl ⟨rfl, trivial⟩⟩, k2⟩
  | .st cs, l, vs, x, r, h, k => by
    simp only [dec] at h
    obtain ⟨a, b, e, k1, k2⟩ := decs_rep cs l vs x r h k
    exact ⟨a, b, e, by simp only [RepD]; exact k1, k2⟩
theorem decs_rep {σ : Env} : ∀ (cs : List TC) (l : List AV) (vs : List Value) (x : TCTs cs) (r : List AV), decs cs l = some (x, r) → RepL σ l vs → ∃ a b, vs = a ++ b ∧ RepDs σ.mem cs x a ∧ RepL σ r b
  | [], l, vs, x, r, h, k => by
    simp only [decs, Option.some.injEq, Prod.mk.injEq, true_and] at h
    subst h
    exact ⟨[], vs, rfl, by simp only [RepDs], k⟩
  | c :: cs, l, vs, x, r, h, k => by
    simp only [decs] at h
    split at h
    · rename_i y l' hy
      split at h
      · rename_i z l'' hz
        simp only [Option.some.injEq, Prod.mk.injEq] at h
        obtain ⟨rfl, rfl⟩ := h
        obtain ⟨a, b, rfl, k1, k2⟩ := dec_rep c l vs y l' hy k
        obtain ⟨a', b', rfl, k3, k4⟩ := decs_rep cs l' b z _ hz k2
        exact ⟨a ++ a', b', by simp, by simp only [RepDs]; exact ⟨a, a', rfl, k1, k3⟩, k4⟩
      · simp at h
    · simp at h
end
theorem dec_all {σ : Env} {c : TC} {l : List AV} {vs : List Value} {x : TCT c} (h : dec c l = some (x, [])) (k : RepL σ l vs) : RepD σ.mem c x vs := by
  obtain ⟨a, b, rfl, k1, k2⟩ := dec_rep c l vs x [] h k
  simp only [RepL] at k2
  subst k2
  simpa using k1
theorem decRows_rep {σ : Env} {c : TC} : ∀ (n : Nat) (l : List AV) (vs : List Value) (xs : List (TCT c)), decRows c n l = some xs → RepL σ l vs → l.length = n * c.size → LR (RepD σ.mem c) xs vs ∧ xs.length = n
  | 0, l, vs, xs, h, k, hl => by
    simp only [decRows, Option.some.injEq] at h
    subst h
    have hl0 : l = [] := List.eq_nil_of_length_eq_zero (by simpa using hl)
    subst hl0
    simp only [RepL] at k
    exact ⟨k, rfl⟩
  | n + 1, l, vs, xs, h, k, hl => by
    simp only [decRows] at h
    split at h
    · rename_i x l' hx
      split at h
      · rename_i ys hys
        simp only [Option.some.injEq] at h
        subst h
        obtain ⟨a, b, rfl, k1, k2⟩ := dec_rep c l vs x l' hx k
        have e1 := RepD.len c x a k1
        have e2 := k.length
        have e3 := k2.length
        have hl' : l'.length = n * c.size := by
          simp only [List.length_append, Nat.add_mul, Nat.one_mul] at e2 hl
          omega
        obtain ⟨k3, k4⟩ := decRows_rep n l' b ys hys k2 hl'
        exact ⟨⟨a, b, rfl, k1, k3⟩, by simp [k4]⟩
      · simp at h
    · simp at h
theorem encA_rep {σ : Env} (c : TC) (x : TCT c) (v : Value) (h : RepD σ.mem c x v.cells.toList) (hc : (∃ cs, c = .st cs) → ∃ vs : Array Value, v = .agg vs) (hc' : (∀ cs, c ≠ .st cs) → v.oneCell' = true) : Rep σ (encA c x) v := by
  cases c with
  | st cs =>
    obtain ⟨vs, rfl⟩ := hc ⟨cs, rfl⟩
    simp only [RepD] at h
    simp only [encA, Rep]
    exact ⟨vs.toList, encs_rep cs x _ h, by simp⟩
  | _ =>
    rw [one_cells (hc' (by simp))] at h
    have := enc_rep _ x _ h
    simp only [enc, RepL, List.cons.injEq] at this
    obtain ⟨v', us, ⟨rfl, _⟩, hr, _⟩ := this
    exact hr
theorem decA_rep {σ : Env} {c : TC} {x : AV} {v : Value} {y : TCT c} (h : decA c x = some y) (k : Rep σ x v) : RepD σ.mem c y v.cells.toList ∧ ((∃ cs, c = .st cs) → ∃ vs : Array Value, v = .agg vs) ∧ ((∀ cs, c ≠ .st cs) → v.oneCell' = true) := by
  cases c with
  | st cs =>
    simp only [decA] at h
    unfold decAg at h
    split at h <;> try (simp at h; done)
    · rename_i l
      split at h
      · rename_i z hz
        simp only [Option.some.injEq] at h
        subst h
        simp only [Rep] at k
        obtain ⟨vs, k1, rfl⟩ := k
        obtain ⟨a, b, rfl, k2, k3⟩ := decs_rep _ l vs z [] hz k1
        simp only [RepL] at k3
        subst k3
        refine ⟨?_, fun _ => ⟨_, rfl⟩, fun h => absurd rfl (h _)⟩
        simp only [RepD]
        simpa [Value.cells] using k2
      · simp at h
  | _ =>
    simp only [decA, dec1] at h
    split at h <;> try (simp at h; done)
    rename_i z hz
    simp only [Option.some.injEq] at h
    subst h
    have hk : RepL σ [x] [v] := by simp only [RepL]; exact ⟨v, [], rfl, k, rfl⟩
    have hd := dec_all hz hk
    have h1 : v.oneCell' = true := by
      simp only [RepD, List.cons.injEq, and_true] at hd
      first
        | (rw [hd]; rfl)
        | (rw [hd.1]; rfl)
        | (obtain ⟨v', rfl, hd⟩ := hd
           rcases hd with ⟨rfl, _⟩ | ⟨_, _, _, _, _, rfl, _⟩ <;> rfl)
    refine ⟨?_, (by rintro ⟨cs, h⟩; cases h), fun _ => h1⟩
    rw [one_cells h1]
    exact hd

section
variable {P : Program}
theorem run_size {t : TypeId} {s : Nat} (h : sizeT P t = some s) (w : World) : (sizeOf t).run P w = .ok s w := by
  unfold sizeT at h
  cases hi : P.info? t with
  | none => simp [hi] at h
  | some i => simp [hi] at h; simp [sizeOf, typeInfo, hi, h]
theorem run_agg {t : TypeId} {b : Bool} (h : isAggT P t = some b) (w : World) : (isAgg t).run P w = .ok b w := by
  unfold isAggT at h
  unfold isAgg
  rw [Sem.run_bind]
  cases hu : P.underlying t with
  | none => simp [hu] at h
  | some d =>
    rw [run_underlying hu w]
    cases d <;> simp [hu] at h <;> subst h <;> rfl
theorem run_zero {σ : Env} {t : TypeId} {z : List AV} (h : zeroT P t = some z) (w : World) : ∃ v, (zeroValue t).run P w = .ok v w ∧ RepL σ z v.cells.toList := by
  unfold zeroT at h
  cases hi : P.info? t with
  | none => simp [hi] at h
  | some i =>
    cases hz : i.zero with
    | none => simp [hi, hz] at h
    | some v =>
      simp [hi, hz] at h; subst h
      exact ⟨v, by simp [zeroValue, typeInfo, hi, hz], repL_ofCell σ _⟩
theorem run_part {σ : Env} {t : TypeId} {cs : List AV} {vs : List Value} {off : Nat} {x : AV} (h : RepL σ cs vs) (hp : partA P t cs off = some x) (w : World) : ∃ v, (part t vs.toArray off).run P w = .ok v w ∧ Rep σ x v := by
  unfold partA at hp
  cases ha : isAggT P t with
  | none => simp [ha] at hp
  | some b =>
    unfold part
    rw [Sem.run_bind, run_agg ha w]
    cases b with
    | true =>
      cases hs : sizeT P t with
      | none => simp [ha, hs] at hp
      | some s =>
        simp only [ha, hs] at hp
        cases hb : Nat.ble (off + s) (lenA cs) with
        | false => simp [hb] at hp
        | true =>
          simp [hb, takeA_eq, dropA_eq] at hp
          subst hp
          simp only [Result.andThen_ok, if_true, Sem.run_bind, run_size hs w, Sem.run_pure]
          refine ⟨_, rfl, ?_⟩
          simp only [Rep]
          refine ⟨(vs.drop off).take s, (h.drop off).take s, ?_⟩
          congr 1
          simp
    | false =>
      simp only [ha, nth_eq] at hp
      obtain ⟨v, hv, hr⟩ := h.get hp
      refine ⟨v, ?_, hr⟩
      simp [hv]
end
end V
end Go.Proofs.Ytgchccljmjmibaa
/- That the symbolic evaluator of the text Ea is sound, second part: one operation. -/
namespace Go.Proofs.Ytgchccljmjmibaa
open Go.RowKit
namespace V

section
variable {P : Program}

theorem run_eqF {σ : Env} {d : Nat} {eq : TypeId → AV → AV → Option Bool} (H : ∀ (t : TypeId) (x y : AV) (p : Bool) (u v : Value) (w : World), eq t x y = some p → Rep σ x u → Rep σ y v → (Op.equalIn d t u v).run P w = .ok p w) : ∀ (fs : List Field) (xs ys : List AV) (p : Bool) (us vs : List Value) (w : World), eqF P eq fs xs ys = some p → RepL σ xs us → RepL σ ys vs → (Op.eqFields d us.toArray vs.toArray fs).run P w = .ok p w
  | [], _, _, p, _, _, w, h, _, _ => by simp [eqF] at h; subst h; rfl
  | f :: fs, xs, ys, p, us, vs, w, h, hx, hy => by
    unfold eqF at h
    by_cases hn : f.name = "_"
    · simp [hn] at h
    · simp only [hn, decide_false, cond_false] at h
      cases ha : partA P f.type xs f.offset with
      | none => simp [ha] at h
      | some a =>
        cases hb : partA P f.type ys f.offset with
        | none => simp [ha, hb] at h
        | some b =>
          simp only [ha, hb] at h
          cases hq : eq f.type a b with
          | none => simp [hq] at h
          | some q =>
            cases hr : eqF P eq fs xs ys with
            | none => simp [hq, hr] at h
            | some r =>
              simp [hq, hr] at h
              obtain ⟨a', h1, h2⟩ := run_part hx ha w
              obtain ⟨b', h3, h4⟩ := run_part hy hb w
              have h5 := H f.type a b q a' b' w hq h2 h4
              have h6 := run_eqF H fs xs ys r us vs w hr hx hy
              simp only [Op.eqFields, ne_eq, hn, not_false_eq_true, if_true, Sem.run_bind, h1, h3, h5, Result.andThen_ok, Sem.run_ite, h6]
              subst h
              cases q <;> simp
theorem bytes_eq {a b : ByteArray} (h : a.data.toList = b.data.toList) : a = b := by
  obtain ⟨⟨x⟩⟩ := a
  obtain ⟨⟨y⟩⟩ := b
  simp at h
  rw [h]
theorem bytes_beq (a b : ByteArray) : (a == b) = (a.data.toList == b.data.toList) := by
  obtain ⟨x⟩ := a
  obtain ⟨y⟩ := b
  show (x == y) = (x.toList == y.toList)
  rw [Bool.eq_iff_iff, beq_iff_eq, beq_iff_eq]
  exact ⟨fun h => by rw [h], fun h => Array.ext' h⟩
theorem run_eqI {σ : Env} {d c : Nat} {e : TypeId} {eq : TypeId → AV → AV → Option Bool} (H : ∀ (t : TypeId) (x y : AV) (p : Bool) (u v : Value) (w : World), eq t x y = some p → Rep σ x u → Rep σ y v → (Op.equalIn d t u v).run P w = .ok p w) : ∀ (is : List Nat) (xs ys : List AV) (p : Bool) (us vs : List Value) (w : World), eqI P eq e c xs ys is = some p → RepL σ xs us → RepL σ ys vs → (Op.eqItems d e c us.toArray vs.toArray is).run P w = .ok p w
  | [], _, _, p, _, _, w, h, _, _ => by simp [eqI] at h; subst h; rfl
  | i :: is, xs, ys, p, us, vs, w, h, hx, hy => by
    unfold eqI at h
    cases ha : partA P e xs (i * c) with
    | none => simp [ha] at h
    | some a =>
      cases hb : partA P e ys (i * c) with
      | none => simp [ha, hb] at h
      | some b =>
        simp only [ha, hb] at h
        cases hq : eq e a b with
        | none => simp [hq] at h
        | some q =>
          cases hr : eqI P eq e c xs ys is with
          | none => simp [hq, hr] at h
          | some r =>
            simp [hq, hr] at h
            obtain ⟨a', h1, h2⟩ := run_part hx ha w
            obtain ⟨b', h3, h4⟩ := run_part hy hb w
            have h5 := H e a b q a' b' w hq h2 h4
            have h6 := run_eqI H is xs ys r us vs w hr hx hy
            simp only [Op.eqItems, Sem.run_bind, h1, h3, h5, Result.andThen_ok, Sem.run_ite, h6]
            subst h
            cases q <;> simp
theorem run_eqA {σ : Env} : ∀ (d : Nat) (t : TypeId) (x y : AV) (p : Bool) (u v : Value) (w : World), eqA P d t x y = some p → Rep σ x u → Rep σ y v → (Op.equalIn d t u v).run P w = .ok p w
  | 0, _, _, _, _, _, _, _, h, _, _ => by simp [eqA] at h
  | d + 1, t, x, y, p, u, v, w, h, hx, hy => by
    unfold eqA at h
    split at h
    · rename_i a b hu
      simp only [Rep] at hx hy
      subst hx; subst hy
      simp at h; subst h
      exact run_equalIn_bool' w d t _ _ hu
    · rename_i k0 k a k' b hu
      simp only [Rep] at hx hy
      obtain ⟨rfl, _⟩ := hx
      obtain ⟨rfl, _⟩ := hy
      by_cases hk : k = k'
      · subst hk
        simp at h; subst h
        exact run_equalIn_int w d t k _ _ _ hu
      · simp [hk] at h
    · rename_i a b hu
      simp only [Rep] at hx hy
      subst hx; subst hy
      simp only [Option.some.injEq] at h; subst h
      rw [← bytes_beq]
      simp [Op.equalIn, run_underlying hu]
    · rename_i fs xs ys hu
      simp only [Rep] at hx hy
      obtain ⟨us, hx1, rfl⟩ := hx
      obtain ⟨vs, hy1, rfl⟩ := hy
      cases hp : P.stoodInHeld t with
      | true => simp [hp] at h
      | false =>
        simp only [hp, cond_false] at h
        have hf : P.fieldsOf t = fs := by simp [Program.fieldsOf, hu]
        rw [run_equalIn_struct w d t _ _ (by rw [hf]; exact hu) hp, hf]
        exact run_eqF (run_eqA d) fs.toList xs ys p us vs w h hx1 hy1
    · rename_i n e xs ys hu
      simp only [Rep] at hx hy
      obtain ⟨us, hx1, rfl⟩ := hx
      obtain ⟨vs, hy1, rfl⟩ := hy
      cases hi : P.info? e with
      | none => simp [hi] at h
      | some inf =>
        simp only [hi] at h
        have hc : P.cellsOf e = inf.size := by simp [Program.cellsOf, hi]
        rw [run_equalIn_array w d _ _ hu hi, hc]
        exact run_eqI (run_eqA d) (List.range n) xs ys p us vs w h hx1 hy1
    · simp at h
end

/-- a value that stands for data -/
structure VR (mem : Nat → Nat → Option Value) (c : TC) (x : TCT c) (v : Value) : Prop where
  d : RepD mem c x v.cells.toList
  a : (∃ cs, c = .st cs) → ∃ vs : Array Value, v = .agg vs
  o : (∀ cs, c ≠ .st cs) → v.oneCell' = true
theorem VR.rep {σ : Env} {c : TC} {x : TCT c} {v : Value} (h : VR σ.mem c x v) : Rep σ (encA c x) v := encA_rep c x v h.d h.a h.o
theorem VR.of {σ : Env} {c : TC} {x : AV} {v : Value} {y : TCT c} (h : decA c x = some y) (k : Rep σ x v) : VR σ.mem c y v := ⟨(decA_rep h k).1, (decA_rep h k).2.1, (decA_rep h k).2.2⟩
/-- what one operation's run has to be, for what the evaluator makes of it -/
def RepDf (σ : Env) : DfA → Deferred → Prop
  | .call f args cap, D => ∃ (us ks : List Value), RepL σ args us ∧ RepL σ cap ks ∧ D = { target := .fn (.func f) ks.toArray, args := us.toArray }
  | .mark id, D => ∃ b, σ id = some b ∧ D = { target := .collected b, args := #[] }
theorem RepDf.mono {σ τ : Env} (e : Ext σ τ) {d : DfA} {D : Deferred} (h : RepDf σ d D) : RepDf τ d D := by
  cases d with
  | call f args cap => obtain ⟨us, ks, h1, h2, h3⟩ := h; exact ⟨us, ks, h1.mono e, h2.mono e, h3⟩
  | mark id => obtain ⟨b, h1, h2⟩ := h; exact ⟨b, e.1 _ _ h1, h2⟩
def AOk (P : Program) (σ : Env) (w : World) (r : Result Next) : Eff → Prop
  | .val x => ∃ v, r = .ok (.value v) w ∧ Rep σ x v
  | .load id row st col n agg => (agg = false → n = 1) ∧ ∀ (b : Nat) (ty : TypeId) (vs : List Value), σ id = some b → w.heap[b]? = some (.cells vs.toArray ty (0, 0)) → row * st + col + n ≤ vs.length →
      r = .ok (.value (if agg then .agg ((vs.drop (row * st + col)).take n).toArray else vs.getD (row * st + col) undef)) w
  | .store id row st col xs => ∃ us, RepL σ xs us ∧ ∀ (b : Nat) (ty : TypeId) (vs : List Value), σ id = some b → w.heap[b]? = some (.cells vs.toArray ty (0, 0)) → row * st + col + us.length ≤ vs.length →
      r = .ok .skip (w.setRow b (setsA vs (row * st + col) us).toArray)
  | .alloc blk mk => ∃ (us : List Value) (v : Value), RepL σ blk.cs us ∧ r = .ok (.value v) (w.alloc (.cells us.toArray blk.ty)) ∧ ∀ (τ : Env) (i : Nat), Ext σ τ → τ i = some w.heap.size → Rep τ (mk i) v
  | .list ty c xs => ∃ (us : List Value) (cap : Nat), r = .ok (.value (.slice (some ⟨w.heap.size, 0, none⟩) xs.length cap)) (w.alloc (.cells us.toArray ty)) ∧ us.length = cap * c.size ∧ xs.length ≤ cap ∧ cap ≤ maxLen ∧ 0 < c.size ∧ LR (RepD σ.mem c) xs (us.take (xs.length * c.size))
  | .listz ty c xs => ∃ (us : List Value) (cap : Nat), r = .ok (.value (.slice (some ⟨w.heap.size, 0, none⟩) xs.length cap)) (w.drew.alloc (.cells us.toArray ty)) ∧ us.length = cap * c.size ∧ xs.length ≤ cap ∧ cap ≤ maxLen ∧ 0 < c.size ∧ LR (RepD σ.mem c) xs (us.take (xs.length * c.size))
  | .app ty bytes st _ dst src => ∃ (t tr : TypeId) (v u : Value) (i : TypeInfo) (z : Value), Rep σ dst v ∧ Rep σ src u ∧ P.underlying t = some (.slice ty) ∧ P.info? ty = some i ∧ i.zero = some z ∧ i.size = st ∧ i.bytes = bytes ∧ z.cells.size = st ∧ 0 < st ∧ 1 ≤ bytes ∧
      r = (do pure (Next.value (← Builtin.append_ #[t, t] tr #[v, u])) : Sem Next).run P w
  | .idx id st n => ∀ (b len cap : Nat), σ.sv id = some (.slice (some ⟨b, 0, none⟩) len cap) → 0 ≤ n → n < len → r = .ok (.value (.pointer (some ⟨b, n.toNat * st, none⟩))) w
  | .len id => ∀ (a : Option Addr) (n cap : Nat), σ.sv id = some (.slice a n cap) → r = .ok (.value (.int .i64 n)) w
  | .call f xs => ∃ us : List Value, RepL σ xs us ∧ r = (callFunc f us.toArray).run P w
  | .round id xs => ∃ (us : List Value) (b : Nat), RepL σ xs us ∧ σ id = some b ∧ r = (Instr.yield b us.toArray).run P w
  | .dfr d => ∃ D, RepDf σ d D ∧ r = .ok (.defer D) w
  | .panic x => ∃ v, Rep σ x v ∧ r = .halt (.panic v) w
  | .test c a => c = true → AOk P σ w r a
  | .alt c a b => (c = true → AOk P σ w r a) ∧ (c = false → AOk P σ w r b)
  | .iter t => r = .ok (.value (.pointer (some ⟨w.heap.size, 0, none⟩))) (w.alloc (.stringIter t 0))
  | .nxt id => ∃ b, σ id = some b ∧ ∀ (t : ByteArray) (pos : Nat), w.heap[b]? = some (.stringIter t pos) →
      (pos + 1 ≤ t.size → r = .ok (.value (.tuple #[.bool true, .int .i64 pos, .int .i32 (Utf8.decode t pos).1])) (w.putObj b (.stringIter t (pos + (Utf8.decode t pos).2)))) ∧
      (¬ pos + 1 ≤ t.size → r = .ok (.value (.tuple #[.bool false])) w)
  | .win id st l h => ∀ v, σ.sv id = some v → (v = .slice none 0 0 → l = 0 → h.getD 0 = 0 → r = .ok (.value (.slice none 0 0)) w) ∧
      ∀ (b len cap : Nat), v = .slice (some ⟨b, 0, none⟩) len cap → 0 ≤ l → l ≤ h.getD len → h.getD len ≤ cap →
        r = .ok (.value (.slice (if cap = l.toNat then some ⟨b, 0, none⟩ else some ((⟨b, 0, none⟩ : Addr).add (l.toNat * st))) ((h.getD len).toNat - l.toNat) (cap - l.toNat))) w
  | .copy id p n p' n' => ∃ (ad ap ap' : Option Addr) (len cc c c' : Nat) (dT sT ty e : TypeId), σ.sv id = some (.slice ad len cc) ∧ P.underlying dT = some (.slice e) ∧ (P.info? e).map (·.size) = some 1 ∧ p + n ≤ len ∧ p' + n' ≤ len ∧
      (∀ g, ad = some ⟨g, 0, none⟩ → 0 < n → ap = some ⟨g, p, none⟩) ∧ (∀ g, ad = some ⟨g, 0, none⟩ → 0 < n' → ap' = some ⟨g, p', none⟩) ∧
      r = (do pure (Next.value (← Builtin.copy_ #[dT, sT] ty #[.slice ap n c, .slice ap' n' c'])) : Sem Next).run P w
  | .trunc id _ n => ∃ v, σ.sv id = some v ∧ (v = .slice none 0 0 → n = 0 → r = .ok (.value (.slice none 0 0)) w) ∧
      ∀ (b len cap : Nat), v = .slice (some ⟨b, 0, none⟩) len cap → 0 ≤ n → n ≤ cap → r = .ok (.value (.slice (some ⟨b, 0, none⟩) n.toNat cap)) w
  | .mapNew _ _ => r = .ok (.value (.map (some w.heap.size))) (w.alloc (.map #[] 0))
  | .mapGet id kc vc z k ok => ∃ (b : Nat) (t kt vt : TypeId) (key zv : Value), σ id = some b ∧ P.underlying t = some (.map kt vt) ∧ keyT P 8 kt kc = true ∧ (zeroValue vt).run P w = .ok zv w ∧ VR σ.mem vc z zv ∧ VR σ.mem kc k key ∧
      r = (do pure (Next.value (← Instr.lookup t (.map (some b)) key ok)) : Sem Next).run P w
  | .mapSet id kc vc k x => ∃ (b : Nat) (t kt vt : TypeId) (key v : Value), σ id = some b ∧ P.underlying t = some (.map kt vt) ∧ keyT P 8 kt kc = true ∧ VR σ.mem vc x v ∧ VR σ.mem kc k key ∧
      r = (do Instr.mapUpdate t (.map (some b)) key v; pure Next.skip : Sem Next).run P w
  | .mapEnt id kc vc z k => ∃ (b : Nat) (t kt vt : TypeId) (key zv : Value), σ id = some b ∧ P.underlying t = some (.map kt vt) ∧ keyT P 8 kt kc = true ∧ (zeroValue vt).run P w = .ok zv w ∧ VR σ.mem vc z zv ∧ VR σ.mem kc k key ∧
      r = (do pure (Next.value (← Instr.mapEntry t (.map (some b)) key)) : Sem Next).run P w
  | .entSet id st vc x => ∃ (b : Nat) (t : TypeId) (n : Int) (v : Value), σ id = some b ∧ σ.sv st = some (.int .i64 n) ∧ VR σ.mem vc x v ∧
      r = (do Instr.entryStore t (.map (some b)) (.int .i64 n) v; pure Next.skip : Sem Next).run P w
  | .mapDel id kc k => ∃ (b : Nat) (ts : Array TypeId) (ty t kt vt : TypeId) (key : Value), σ id = some b ∧ ts[0]? = some t ∧ P.underlying t = some (.map kt vt) ∧ keyT P 8 kt kc = true ∧ VR σ.mem kc k key ∧
      r = (do pure (Next.value (← Builtin.delete_ ts ty #[.map (some b), key])) : Sem Next).run P w
  | .mapClr id => ∃ (b : Nat) (ts : Array TypeId) (ty t kt vt : TypeId), σ id = some b ∧ ts[0]? = some t ∧ P.underlying t = some (.map kt vt) ∧
      r = (do pure (Next.value (← Builtin.clear_ ts ty #[.map (some b)])) : Sem Next).run P w
  | _ => True

section
variable {P : Program}
theorem aok_opt {σ : Env} {w : World} {r : Result Next} {o : Option AV} (h : ∀ x, o = some x → ∃ v, r = .ok (.value v) w ∧ Rep σ x v) : AOk P σ w r (ofOpt o) := by
  cases o with
  | none => simp [ofOpt, AOk]
  | some x => simp only [ofOpt, AOk]; exact h x rfl
theorem aok_yes {σ : Env} {w : World} {r : Result Next} {o : Option Bool} (h : ∀ b, o = some b → r = .ok (.value (.bool b)) w) : AOk P σ w r (yesA o) := by
  cases o with
  | none => simp [yesA, AOk]
  | some b => simp only [yesA, AOk, Rep]; exact ⟨_, h b rfl, rfl⟩
theorem aok_not {σ : Env} {w : World} {r : Result Next} {o : Option Bool} (h : ∀ b, o = some b → r = .ok (.value (.bool (!b))) w) : AOk P σ w r (notA o) := by
  cases o with
  | none => simp [notA, AOk]
  | some b => simp only [notA, AOk, Rep]; exact ⟨_, h b rfl, rfl⟩

theorem emod_le_self' (a b : Int) (ha : 0 ≤ a) : a % b ≤ a := by
  have key : ∀ c : Int, 0 < c → a % c ≤ a := by
    intro c hc
    have h1 := Int.mul_ediv_add_emod a c
    have h2 := Int.mul_nonneg (Int.le_of_lt hc) (Int.ediv_nonneg ha (Int.le_of_lt hc))
    omega
  rcases Int.lt_trichotomy b 0 with h | h | h
  · rw [← Int.emod_neg]; exact key (-b) (by omega)
  · subst h; simp
  · exact key b h
theorem tmod_in {k : IntKind} {a b : Int} (h : inK k a) : inK k (a.tmod b) := by
  have h0 : minK k ≤ 0 ∧ 0 ≤ maxK k := by cases k <;> simp [minK, maxK]
  obtain ⟨h1, h2⟩ := h
  rcases Int.le_total 0 a with ha | ha
  · have k1 := Int.tmod_nonneg b ha
    have k2 : a.tmod b ≤ a := by rw [Int.tmod_eq_emod_of_nonneg ha]; exact emod_le_self' a b ha
    exact ⟨by omega, by omega⟩
  · have e : a.tmod b = -((-a).tmod b) := by rw [Int.neg_tmod, Int.neg_neg]
    have k1 := Int.tmod_nonneg b (show 0 ≤ -a by omega)
    have k2 : (-a).tmod b ≤ -a := by rw [Int.tmod_eq_emod_of_nonneg (by omega)]; exact emod_le_self' (-a) b (by omega)
    rw [e]
    exact ⟨by omega, by omega⟩
theorem aok_arith {σ : Env} {w : World} (t : TypeId) (op : BinOp) (k : IntKind) (a b : Int) (ha : inK k a) (h1 : op ≠ .shl) (h2 : op ≠ .shr) :
    AOk P σ w ((do pure (Next.value (← binOp op t (.int k a) (.int k b))) : Sem Next).run P w) (arithA op k a b) := by
  cases op <;> simp only [arithA, AOk, ne_eq, reduceCtorEq, not_true_eq_false, not_false_eq_true] at h1 h2 ⊢
  all_goals first
    | (intro hb
       have hb' : b ≠ 0 := by simpa using hb
       first
         | (refine ⟨_, ?_, rep_wrap _ _⟩
            simp [binOp, Op.intDiv, hb']; done)
         | (refine ⟨_, ?_, rep_int (tmod_in ha)⟩
            simp [binOp, Op.intDiv, hb']; done))
    | (refine ⟨_, ?_, rep_wrap _ _⟩
       simp [binOp, Op.intArith, Op.intBits]; done)
    | (refine ⟨_, ?_, rep_bool _⟩
       simp [binOp, Op.intCmp]; done)
    | trivial

theorem run_stores (g o : Nat) (t : TypeId) : ∀ (us : List Value) (i : Nat) (cur : List Value) (w : World), w.heap[g]? = some (.cells cur.toArray t (0, 0)) → o + i + us.length ≤ cur.length → (∀ v ∈ us, v.oneCell' = true) →
    (storeCells ⟨g, o, none⟩ us i).run P w = .ok () (w.setRow g (setsA cur (o + i) us).toArray)
  | [], i, cur, w, hg, _, _ => by
    simp only [storeCells, setsA]
    rw [setRow_self w g cur.toArray t (0, 0) hg]
    rfl
  | v :: us, i, cur, w, hg, hl, h1 => by
    have hi : o + i < cur.length := by simp at hl; omega
    have hadd : (⟨g, o, none⟩ : Addr).add i = ⟨g, o + i, none⟩ := by unfold Addr.add; split <;> simp_all
    have hcell : w.cell? ⟨g, o + i, none⟩ = some cur[o + i] := by simp [World.cell?, hg, hi]
    have hfro : w.frozen? ⟨g, o + i, none⟩ = false := by simp [World.frozen?, hg]
    have hst : (store ((⟨g, o, none⟩ : Addr).add i) v).run P w = .ok () (w.setRow g (cur.set (o + i) v).toArray) := by
      rw [hadd, run_store P w _ v _ (h1 v (by simp)), hcell]
      simp [hfro, setCell_eq_setRow w g (o + i) cur.toArray t (0, 0) v hg]
    have hh := setRow_heap w g cur.toArray (cur.set (o + i) v).toArray t (0, 0) hg
    have ih := run_stores g o t us (i + 1) (cur.set (o + i) v) _ hh (by simp at hl ⊢; omega) (fun x hx => h1 x (by simp [hx]))
    simp only [storeCells, Sem.run_bind, hst, Result.andThen_ok, ih, setRow_setRow, setsA, setA_eq]
    rfl

theorem run_loads {w : World} {b off n : Nat} {ty : TypeId} {vs : List Value} (hw : w.heap[b]? = some (.cells vs.toArray ty (0, 0))) (hl : off + n ≤ vs.length) :
    (loadCells ⟨b, off, none⟩ n).run P w = .ok ((vs.drop off).take n).toArray w := by
  have hlen : ((vs.drop off).take n).length = n := by simp; omega
  have := run_loadCells_list (P := P) w ⟨b, off, none⟩ ((vs.drop off).take n) (fun j v hv => by
    have hadd : (⟨b, off, none⟩ : Addr).add j = ⟨b, off + j, none⟩ := by unfold Addr.add; split <;> simp_all
    rw [hadd, cell_of_row w b (off + j) vs.toArray ty (0, 0) hw]
    rw [List.getElem?_take] at hv
    split at hv
    · rw [List.getElem?_drop] at hv; simpa using hv
    · simp at hv)
  rw [hlen] at this
  exact this
theorem run_load1 {w : World} {b off : Nat} {ty : TypeId} {vs : List Value} (hw : w.heap[b]? = some (.cells vs.toArray ty (0, 0))) (hl : off + 1 ≤ vs.length) :
    (load ⟨b, off, none⟩).run P w = .ok (vs.getD off undef) w := by
  rw [run_load, cell_of_row w b off vs.toArray ty (0, 0) hw]
  simp [show off < vs.length by omega, List.getD]

theorem all_one {σ : Env} {xs : List AV} {vs : List Value} (h : RepL σ xs vs) (ho : xs.all one = true) : ∀ v ∈ vs, v.oneCell' = true := by
  intro v hv
  obtain ⟨i, hi, rfl⟩ := List.getElem_of_mem hv
  have hx : i < xs.length := by rw [h.length]; exact hi
  exact one_cell ((repL_iff.1 h).2 i xs[i] vs[i] (List.getElem?_eq_getElem hx) (List.getElem?_eq_getElem hi)) (List.all_eq_true.1 ho _ (List.getElem_mem hx))

variable {σ : Env} {w : World} {a : Go.Act} {s : St}

def MemOk (mem : Nat → Nat → Option Value) (w : World) : Prop := ∀ (b o : Nat) (v : Value), mem b o = some v → w.cell? ⟨b, o, none⟩ = some v
theorem run_reads {mem : Nat → Nat → Option Value} (hm : MemOk mem w) {b o col n : Nat} {vs : List Value} (h : Reads mem b o vs) (hl : col + n ≤ vs.length) :
    (loadCells ⟨b, o + col, none⟩ n).run P w = .ok ((vs.drop col).take n).toArray w := by
  have hlen : ((vs.drop col).take n).length = n := by simp; omega
  have := run_loadCells_list (P := P) w ⟨b, o + col, none⟩ ((vs.drop col).take n) (fun j v hv => by
    have hadd : (⟨b, o + col, none⟩ : Addr).add j = ⟨b, o + (col + j), none⟩ := by unfold Addr.add; split <;> simp_all [Nat.add_assoc]
    rw [hadd]
    refine hm _ _ _ (h _ _ ?_)
    rw [List.getElem?_take] at hv
    split at hv
    · rw [List.getElem?_drop] at hv; simpa using hv
    · simp at hv)
  rw [hlen] at this
  exact this
theorem run_read1 {mem : Nat → Nat → Option Value} (hm : MemOk mem w) {b o col : Nat} {vs : List Value} {v : Value} (h : Reads mem b o vs) (hl : vs[col]? = some v) :
    (load ⟨b, o + col, none⟩).run P w = .ok v w := by
  rw [run_load, hm _ _ _ (h _ _ hl)]
theorem eff_load (hm : MemOk σ.mem w) (hρ : ∀ x, Rep σ (s.eval x) (a.eval x)) (o : Oper) (t : TypeId) (x : Operand) (hop : o.op = .load t x) : AOk P σ w ((execOp a.eval o).run P w) (eff P (.load t x) s.eval) := by
  have hx := hρ x
  simp only [eff]
  split
  · rename_i id row st col n h1 h2 h3
    rw [h1] at hx
    simp only [Rep] at hx
    obtain ⟨b, hb, hav⟩ := hx
    simp only [AOk]
    refine ⟨by simp, fun b' ty vs hσ hw hl => ?_⟩
    rw [hb] at hσ; cases hσ
    simp [execOp, hop, hav, Instr.loadAt, Instr.sureAddr, loadVar, run_agg h2, run_size h3, run_loads hw hl]
  · rename_i id row st col h1 h2
    rw [h1] at hx
    simp only [Rep] at hx
    obtain ⟨b, hb, hav⟩ := hx
    simp only [AOk]
    refine ⟨by simp, fun b' ty vs hσ hw hl => ?_⟩
    rw [hb] at hσ; cases hσ
    have := run_load1 (P := P) hw hl
    simp only [execOp, hop, hav, Instr.loadAt, Instr.sureAddr, loadVar, Sem.run_bind, Sem.run_pure, Result.andThen_ok, run_agg h2, Bool.false_eq_true, if_false, this]
  · rename_i c x col n h1 h2 h3
    cases hb : Nat.ble (col + n) c.size with
    | false => simp only [cond_false, AOk]
    | true =>
      rw [h1] at hx
      simp only [Rep] at hx
      obtain ⟨b, o', vs, hav, hr, hd⟩ := hx
      have hlen := RepD.len _ _ _ hd
      simp only [Nat.ble_eq] at hb
      have := run_reads (P := P) hm hr (show col + n ≤ vs.length by omega)
      simp only [cond_true, AOk]
      refine ⟨.agg ((vs.drop col).take n).toArray, by simp [execOp, hop, hav, Instr.loadAt, Instr.sureAddr, loadVar, run_agg h2, run_size h3, this], ?_⟩
      simp only [Rep, takeA_eq, dropA_eq]
      exact ⟨_, ((enc_rep _ _ _ hd).drop _).take _, rfl⟩
  · rename_i c x col h1 h2
    rw [h1] at hx
    simp only [Rep] at hx
    obtain ⟨b, o', vs, hav, hr, hd⟩ := hx
    refine aok_opt fun y hy => ?_
    rw [nth_eq] at hy
    obtain ⟨v, hv1, hv2⟩ := (enc_rep _ _ _ hd).get hy
    have := run_read1 (P := P) hm hr hv1
    refine ⟨v, ?_, hv2⟩
    simp only [execOp, hop, hav, Instr.loadAt, Instr.sureAddr, loadVar, Sem.run_bind, Sem.run_pure, Result.andThen_ok, run_agg h2, Bool.false_eq_true, if_false, this]
  · simp only [AOk]

theorem eff_store (hρ : ∀ x, Rep σ (s.eval x) (a.eval x)) (o : Oper) (t : TypeId) (x y : Operand) (hop : o.op = .store t x y) : AOk P σ w ((execOp a.eval o).run P w) (eff P (.store t x y) s.eval) := by
  have hx := hρ x
  have hy := hρ y
  simp only [eff]
  split
  · rename_i id row st col cs n h1 h2 h3
    cases hb : (Nat.beq (lenA cs) n && cs.all one) with
    | false => simp only [cond_false, AOk]
    | true =>
      simp only [Bool.and_eq_true, Nat.beq_eq, lenA_eq] at hb
      rw [h1] at hx
      simp only [Rep] at hx
      obtain ⟨b, hb1, hav⟩ := hx
      have hcr := rep_cells hy h2
      simp only [cond_true, AOk]
      refine ⟨_, hcr, fun b' ty vs hσ hw hl => ?_⟩
      rw [hb1] at hσ; cases hσ
      have hsz : (a.eval y).cells.size = n := by have := hcr.length; simp at this; omega
      have h5 := run_stores (P := P) b (row * st + col) ty (a.eval y).cells.toList 0 vs w hw (by simpa using hl) (all_one hcr hb.2)
      simp only [execOp, hop, hav, Instr.storeAt, Instr.sureAddr, storeVar, Sem.run_bind, Sem.run_pure, Result.andThen_ok, run_size h3, hsz, ne_eq, not_true_eq_false, if_false, h5, Nat.add_zero]
  · simp only [AOk]
end
end V
end Go.Proofs.Ytgchccljmjmibaa
/- That the symbolic evaluator of the text Ea is sound: each operation. -/
namespace Go.Proofs.Ytgchccljmjmibaa
open Go.RowKit
namespace V
section
variable {P : Program} {σ : Env} {w : World} {a : Go.Act} {s : St}

theorem repL_ops (hρ : ∀ x, Rep σ (s.eval x) (a.eval x)) (l : List Operand) : RepL σ (l.map s.eval) (l.map a.eval) := RepL.map hρ l

theorem eff_build (hρ : ∀ x, Rep σ (s.eval x) (a.eval x)) (o : Oper) (t : TypeId) (parts : Array (Nat × Operand)) (hop : o.op = .build t parts) : AOk P σ w ((execOp a.eval o).run P w) (eff P (.build t parts) s.eval) := by
  simp only [eff]
  refine aok_opt fun x hx => ?_
  have hpl : (parts.toList.map fun p => (p.1, s.eval p.2)).length = (parts.map fun (i, x) => (i, a.eval x)).toList.length ∧ ∀ (i : Nat) (p : Nat × AV) (q : Nat × Value), (parts.toList.map fun p => (p.1, s.eval p.2))[i]? = some p → (parts.map fun (i, x) => (i, a.eval x)).toList[i]? = some q → p.1 = q.1 ∧ Rep σ p.2 q.2 := by
    refine ⟨by simp, fun i p q hp hq => ?_⟩
    simp only [Array.toList_map, List.getElem?_map] at hp hq
    cases hi : parts.toList[i]? with
    | none => simp [hi] at hp
    | some e =>
      simp [hi] at hp hq
      subst hp; subst hq
      exact ⟨rfl, hρ _⟩
  unfold buildA at hx
  cases hz : zeroT P t with
  | none => simp [hz] at hx
  | some z =>
    cases hu : P.underlying t with
    | none => simp [hz, hu] at hx
    | some d =>
      have hz' := hz
      unfold zeroT at hz'
      cases hit : P.info? t with
      | none => simp [hit] at hz'
      | some it =>
        cases hiz : it.zero with
        | none => simp [hit, hiz] at hz'
        | some zv =>
          simp [hit, hiz] at hz'
          have hzr : RepL σ z zv.cells.toList := by rw [← hz']; exact repL_ofCell σ _
          have key : ∀ cells, P.built t (parts.map fun (i, x) => (i, a.eval x)).toList = some cells → (execOp a.eval o).run P w = .ok (.value (.agg cells)) w := by
            intro cells hc
            unfold execOp
            simp only [hop, Sem.run_bind, run_build w t _ cells hc, Result.andThen_ok, Sem.run_pure]
          cases d <;> try (simp [hz, hu] at hx; done)
          case array n e =>
            cases hs : sizeT P e with
            | none => simp [hz, hu, hs] at hx
            | some sz =>
              simp only [hz, hu, hs, Option.map_eq_some_iff] at hx
              obtain ⟨r, hf, rfl⟩ := hx
              obtain ⟨us, h1, h2, _⟩ := fill_rep _ _ _ _ _ _ hzr hpl hf
              unfold sizeT at hs
              cases hie : P.info? e with
              | none => simp [hie] at hs
              | some ie =>
                simp [hie] at hs; subst hs
                refine ⟨_, key us.toArray ?_, by simp only [Rep]; exact ⟨us, h2, rfl⟩⟩
                unfold Program.built
                simp only [hit, hu, hiz, hie]
                simpa using h1
          case struct fields =>
            cases hp : placesA P fields.toList with
            | none => simp [hz, hu, hp] at hx
            | some places =>
              simp only [hz, hu, hp, Option.map_eq_some_iff] at hx
              obtain ⟨r, hf, rfl⟩ := hx
              have hpm : ∀ (fs : List Field) (pl : List (Nat × Nat)), placesA P fs = some pl → fs.mapM (fun f => (P.info? f.type).map fun i => (f.offset, i.size)) = some pl := by
                intro fs
                induction fs with
                | nil => intro pl h; simp [placesA] at h; subst h; rfl
                | cons f fs ih =>
                  intro pl h
                  simp only [placesA, sizeT] at h
                  cases hi : P.info? f.type with
                  | none => simp [hi] at h
                  | some i =>
                    cases hr : placesA P fs with
                    | none => simp [hi, hr] at h
                    | some r =>
                      simp [hi, hr] at h; subst h
                      simp [List.mapM_cons, hi, ih r hr]
              have hnth : nth places = (places.toArray[·]?) := by funext i; simp [nth_eq]
              rw [hnth] at hf
              obtain ⟨us, h1, h2, _⟩ := fill_rep _ _ _ _ _ _ hzr hpl hf
              refine ⟨_, key us.toArray ?_, by simp only [Rep]; exact ⟨us, h2, rfl⟩⟩
              unfold Program.built
              simp only [hit, hu, hiz, hpm _ _ hp]
              simpa using h1

theorem fdiv_in {k : IntKind} {a : Int} (h : inK k a) (n : Nat) : inK k (a.fdiv (2 ^ n)) := by
  have h0 : minK k ≤ 0 ∧ 0 ≤ maxK k := by cases k <;> simp [minK, maxK]
  obtain ⟨h1, h2⟩ := h
  have hp : (0 : Int) < 2 ^ n := Int.pow_pos (by decide)
  rw [Int.fdiv_eq_ediv_of_nonneg _ (Int.le_of_lt hp)]
  rcases Int.le_total 0 a with ha | ha
  · have k1 := Int.ediv_nonneg ha (Int.le_of_lt hp)
    have k2 := Int.ediv_le_self (2 ^ n) ha
    exact ⟨by omega, by omega⟩
  · have k1 : a ≤ a / 2 ^ n := by
      rw [Int.le_ediv_iff_mul_le hp]
      have : a * 2 ^ n ≤ a * 1 := Int.mul_le_mul_of_nonpos_left ha (by omega)
      omega
    have k2 : a / 2 ^ n ≤ 0 := Int.le_of_lt_add_one ((Int.ediv_lt_iff_lt_mul hp).2 (by simp; omega))
    exact ⟨by omega, by omega⟩
theorem run_equalIn_nil (w : World) (d : Nat) (t e : TypeId) (a : Addr) (n c : Nat) (hu : P.underlying t = some (.slice e)) : (Op.equalIn (d + 1) t (.slice (some a) n c) (.slice none 0 0)).run P w = .ok false w := by
  simp [Op.equalIn, run_underlying hu]
theorem slD_cases {m : Nat → Nat → Option Value} {c : TC} {xs : List (TCT c)} {v : Value} (h : RepD m (.sl c) xs [v]) : (v = .slice none 0 0 ∧ xs = []) ∨ ∃ b o s cap us, v = .slice (some ⟨b, o, s⟩) xs.length cap ∧ xs.length ≤ cap ∧ (cap : Int) ≤ maxK .i64 ∧ ((us = [] ∨ s = none) ∧ Reads m b o us) ∧ LR (RepD m c) xs us := by
  simp only [RepD, List.cons.injEq, and_true] at h
  obtain ⟨v', rfl, h⟩ := h
  exact h
theorem run_eqI1 (w : World) (d : Nat) (t u : TypeId) (x : Value) (ms : _) (hu : P.underlying t = some (.interface ms)) : (Op.equalIn (d + 1) t (.iface u x) .nilIface).run P w = .ok false w := by
  simp [Op.equalIn, run_underlying hu]
theorem run_eqI2 (w : World) (d : Nat) (t : TypeId) (ms : _) (hu : P.underlying t = some (.interface ms)) : (Op.equalIn (d + 1) t .nilIface .nilIface).run P w = .ok true w := by
  simp [Op.equalIn, run_underlying hu]
theorem run_eqI3 (w : World) (d : Nat) (t : TypeId) (ms : _) (hu : P.underlying t = some (.interface ms)) : (Op.eqGuardIn (d + 1) t .nilIface .nilIface).run P w = .ok (!ms.isEmpty) w := by
  simp [Op.eqGuardIn, run_underlying hu]
theorem run_eqS (w : World) (d : Nat) (t e : TypeId) (hu : P.underlying t = some (.slice e)) : (Op.equalIn (d + 1) t (.slice none 0 0) (.slice none 0 0)).run P w = .ok true w := by
  simp [Op.equalIn, run_underlying hu]
theorem run_guardI (w : World) (op : BinOp) (t : TypeId) (xo yo : Operand) (ms : _) (hu : P.underlying t = some (.interface ms)) (hm : ms.isEmpty = true) : (eqGuard op t xo yo .nilIface .nilIface).run P w = .ok () w := by
  have h : (Op.eqGuardIn Op.maxDepth t .nilIface .nilIface).run P w = .ok false w := by
    have := run_eqI3 (P := P) w 9999 t ms hu
    rw [hm] at this
    exact this
  cases op
  case eql => cases xo <;> cases yo <;> simp [eqGuard, h]
  case neq => cases xo <;> cases yo <;> simp [eqGuard, h]
  all_goals simp [eqGuard]
theorem aok_bin (op : BinOp) (t : TypeId) (xo yo : Operand) (ty : TypeId) (o : Oper) (hop : o.op = .binOp op t xo yo ty) {x y : AV} (hx : Rep σ x (a.eval xo)) (hy : Rep σ y (a.eval yo)) :
    AOk P σ w ((execOp a.eval o).run P w) (binA P op t x y) := by
  have hrun : (execOp a.eval o).run P w = ((eqGuard op t xo yo (a.eval xo) (a.eval yo)).run P w).andThen fun _ w' => ((do pure (Next.value (← binOp op t (a.eval xo) (a.eval yo))) : Sem Next).run P w') := by
    unfold execOp
    simp only [hop, Sem.run_bind]
    cases (eqGuard op t xo yo (a.eval xo) (a.eval yo)).run P w <;> rfl
  have hshift : ∀ (op' : BinOp) (k k' : IntKind) (m n : Int), inK k m → (op' = .shl ∨ op' = .shr) → op = op' → a.eval xo = .int k m → a.eval yo = .int k' n → AOk P σ w ((execOp a.eval o).run P w) (shiftA op' k m n) := by
    intro op' k k' m n hm hs ho h1 h2
    subst ho
    rw [hrun, h1, h2]
    rcases hs with rfl | rfl
    · simp only [shiftA, AOk]
      intro hb
      have hb' : ¬ n < 0 := by simpa using hb
      refine ⟨_, ?_, rep_wrap _ _⟩
      simp [eqGuard, binOp, Op.shift, hb']
    · simp only [shiftA, AOk]
      intro hb
      have hb' : ¬ n < 0 := by simpa using hb
      refine ⟨_, ?_, rep_int (fdiv_in hm _)⟩
      simp [eqGuard, binOp, Op.shift, hb']
  unfold binA
  split
  · simp only [Rep] at hx hy
    exact hshift .shl _ _ _ _ hx.2 (.inl rfl) rfl hx.1 hy.1
  · simp only [Rep] at hx hy
    exact hshift .shr _ _ _ _ hx.2 (.inr rfl) rfl hx.1 hy.1
  · rename_i k m k' n hn1 hn2
    simp only [Rep] at hx hy
    by_cases hk : k = k'
    · subst hk
      simp only [decide_true, cond_true]
      have h1 : op ≠ .shl := hn1
      have h2 : op ≠ .shr := hn2
      have hg : (eqGuard op t xo yo (.int k m) (.int k n)).run P w = .ok () w := by cases op <;> simp [eqGuard]
      rw [hrun, hx.1, hy.1, hg, Result.andThen_ok]
      exact aok_arith t op k m n hx.2 h1 h2
    · simp only [hk, decide_false, cond_false, AOk]
  · rename_i p q
    simp only [Rep] at hx hy
    split
    · rename_i hu
      simp only [cond_true, AOk]
      refine ⟨_, ?_, by simp only [Rep]; rfl⟩
      rw [hrun, hx, hy]
      have := run_equalIn_bool' (P := P) w 9999 t p q hu
      simp [eqGuard, binOp, Op.equal, Op.maxDepth, this]
    · simp only [cond_false, AOk]
  · rename_i p q
    simp only [Rep] at hx hy
    split
    · rename_i hu
      simp only [cond_true, AOk]
      refine ⟨_, ?_, by simp only [Rep]; rfl⟩
      rw [hrun, hx, hy]
      have := run_equalIn_bool' (P := P) w 9999 t p q hu
      simp [eqGuard, binOp, Op.equal, Op.maxDepth, this]
    · simp only [cond_false, AOk]
  · rename_i xs ys
    cases hm : P.eqGuardType P.depth t with
    | true => simp only [cond_true, AOk]
    | false =>
      simp only [cond_false]
      refine aok_yes fun b hb => ?_
      have h1 := run_eqA Op.maxDepth t _ _ b _ _ w hb hx hy
      simp only [Rep] at hx hy
      obtain ⟨us, hx1, hx2⟩ := hx
      obtain ⟨vs, hy1, hy2⟩ := hy
      rw [hrun, hx2, hy2, run_eqGuard_agg w _ t xo yo _ _ hm]
      rw [hx2, hy2] at h1
      simp [run_eql_struct, h1, show (10000 : Nat) = Op.maxDepth from rfl]
  · rename_i xs ys
    cases hm : P.eqGuardType P.depth t with
    | true => simp only [cond_true, AOk]
    | false =>
      simp only [cond_false]
      refine aok_not fun b hb => ?_
      have h1 := run_eqA Op.maxDepth t _ _ b _ _ w hb hx hy
      simp only [Rep] at hx hy
      obtain ⟨us, hx1, hx2⟩ := hx
      obtain ⟨vs, hy1, hy2⟩ := hy
      rw [hrun, hx2, hy2, run_eqGuard_agg w _ t xo yo _ _ hm]
      rw [hx2, hy2] at h1
      simp [run_neq_struct, h1, show (10000 : Nat) = Op.maxDepth from rfl]
  · simp only [Rep] at hx hy
    obtain ⟨_, _, b, _, hx⟩ := hx
    split
    · rename_i e hu
      simp only [cond_true, AOk]
      refine ⟨_, ?_, by simp only [Rep]; rfl⟩
      rw [hrun, hx, hy]
      have := fun ad n c => run_equalIn_nil (P := P) w 9999 t e ad n c hu
      simp [eqGuard, binOp, Op.equal, Op.maxDepth, this]
    · simp only [cond_false, AOk]
  · simp only [Rep] at hx hy
    simp only [AOk]
    refine ⟨_, ?_, by simp only [Rep]; rfl⟩
    rw [hrun, hx, hy]
    rename_i p q
    obtain ⟨⟨l⟩⟩ := p
    obtain ⟨⟨m⟩⟩ := q
    simp [eqGuard, binOp, Op.stringOp]
  · simp only [Rep] at hx hy
    simp only [AOk]
    refine ⟨_, ?_, by simp only [Rep]; rfl⟩
    rw [hrun, hx, hy]
    rename_i p q
    obtain ⟨⟨l⟩⟩ := p
    obtain ⟨⟨m⟩⟩ := q
    simp [eqGuard, binOp, Op.stringOp]
  · simp only [Rep] at hx hy
    obtain ⟨u, _, hx⟩ := hx
    split
    · rename_i ms hu
      simp only [cond_true, AOk]
      refine ⟨_, ?_, by simp only [Rep]; rfl⟩
      rw [hrun, hx, hy]
      have := fun u x => run_eqI1 (P := P) w 9999 t u x ms hu
      simp [eqGuard, binOp, Op.equal, Op.maxDepth, this]
    · simp only [cond_false, AOk]
  · simp only [Rep] at hx hy
    obtain ⟨u, _, hx⟩ := hx
    split
    · rename_i ms hu
      simp only [cond_true, AOk]
      refine ⟨_, ?_, by simp only [Rep]; rfl⟩
      rw [hrun, hx, hy]
      have := fun u x => run_eqI1 (P := P) w 9999 t u x ms hu
      simp [eqGuard, binOp, Op.equal, Op.maxDepth, this]
    · simp only [cond_false, AOk]
  · simp only [Rep] at hx hy
    split
    · rename_i ms hu
      cases hms : ms.isEmpty with
      | false => simp only [cond_false, AOk]
      | true =>
        simp only [cond_true, AOk]
        refine ⟨_, ?_, by simp only [Rep]; rfl⟩
        rw [hrun, hx, hy, run_guardI (P := P) w _ t xo yo ms hu hms]
        have := run_eqI2 (P := P) w 9999 t ms hu
        simp [binOp, Op.equal, Op.maxDepth, this]
    · simp only [cond_false, AOk]
  · simp only [Rep] at hx hy
    split
    · rename_i ms hu
      cases hms : ms.isEmpty with
      | false => simp only [cond_false, AOk]
      | true =>
        simp only [cond_true, AOk]
        refine ⟨_, ?_, by simp only [Rep]; rfl⟩
        rw [hrun, hx, hy, run_guardI (P := P) w _ t xo yo ms hu hms]
        have := run_eqI2 (P := P) w 9999 t ms hu
        simp [binOp, Op.equal, Op.maxDepth, this]
    · simp only [cond_false, AOk]
  · simp only [Rep] at hx hy
    split
    · rename_i e hu
      simp only [cond_true, AOk]
      refine ⟨_, ?_, by simp only [Rep]; rfl⟩
      rw [hrun, hx, hy]
      have := run_eqS (P := P) w 9999 t e hu
      simp [eqGuard, binOp, Op.equal, Op.maxDepth, this]
    · simp only [cond_false, AOk]
  · rename_i xs
    simp only [Rep] at hx hy
    split
    · rename_i e hu
      simp only [cond_true, AOk]
      intro hne
      refine ⟨_, ?_, by simp only [Rep]; rfl⟩
      rcases slD_cases hx with ⟨_, rfl⟩ | ⟨b, o', sp, cap, us, hx, _⟩
      · simp at hne
      · rw [hrun, hx, hy]
        have := fun ad n c => run_equalIn_nil (P := P) w 9999 t e ad n c hu
        simp [eqGuard, binOp, Op.equal, Op.maxDepth, this]
    · simp only [cond_false, AOk]
  · simp only [AOk]

theorem eff_un (hρ : ∀ x, Rep σ (s.eval x) (a.eval x)) (o : Oper) (op : UnOp) (t : TypeId) (x : Operand) (hop : o.op = .unOp op t x) : AOk P σ w ((execOp a.eval o).run P w) (eff P (.unOp op t x) s.eval) := by
  have hx := hρ x
  simp only [eff, unA]
  split
  · rename_i k n h
    rw [h] at hx; simp only [Rep] at hx
    simp only [AOk]
    refine ⟨_, ?_, rep_wrap _ _⟩
    simp [execOp, hop, hx.1, Op.unary, Op.intArith]
  · rename_i b h
    rw [h] at hx; simp only [Rep] at hx
    simp only [AOk]
    refine ⟨_, ?_, by simp only [Rep]; rfl⟩
    simp [execOp, hop, hx, Op.unary]
  · simp only [AOk]

theorem eff_conv (hρ : ∀ x, Rep σ (s.eval x) (a.eval x)) (o : Oper) (src dst : TypeId) (x : Operand) (hop : o.op = .convert src dst x) : AOk P σ w ((execOp a.eval o).run P w) (eff P (.convert src dst x) s.eval) := by
  have hx := hρ x
  simp only [eff, convA]
  split
  · rename_i k0 k k' n hu1 hu2 h
    rw [h] at hx; simp only [Rep] at hx
    simp only [AOk]
    refine ⟨_, ?_, rep_wrap _ _⟩
    simp [execOp, hop, hx.1, convert, run_underlying hu1, run_underlying hu2, Conv.intToInt]
  · simp only [AOk]

theorem eff_field (hρ : ∀ x, Rep σ (s.eval x) (a.eval x)) (o : Oper) (t : TypeId) (x : Operand) (i : Nat) (hop : o.op = .field t x i) : AOk P σ w ((execOp a.eval o).run P w) (eff P (.field t x i) s.eval) := by
  have hx := hρ x
  simp only [eff]
  split
  · rename_i cs fs h hu
    rw [h] at hx; simp only [Rep] at hx
    obtain ⟨us, h1, h2⟩ := hx
    simp only [nth_eq]
    cases hf : fs.toList[i]? with
    | none => simp only [AOk]
    | some f =>
      refine aok_opt fun y hy => ?_
      obtain ⟨v, hv1, hv2⟩ := run_part h1 hy w
      refine ⟨v, ?_, hv2⟩
      have hf' : fs[i]? = some f := by simpa using hf
      simp [execOp, hop, h2, Instr.field, run_underlying hu, hf', asAgg, hv1]
  · simp only [AOk]

theorem eff_fieldAddr (hρ : ∀ x, Rep σ (s.eval x) (a.eval x)) (o : Oper) (t : TypeId) (x : Operand) (i : Nat) (hop : o.op = .fieldAddr t x i) : AOk P σ w ((execOp a.eval o).run P w) (eff P (.fieldAddr t x i) s.eval) := by
  have hx := hρ x
  simp only [eff]
  split
  · rename_i id row st col fs h hu
    rw [h] at hx; simp only [Rep] at hx
    obtain ⟨b, h1, h2⟩ := hx
    simp only [nth_eq]
    cases hf : fs.toList[i]? with
    | none => simp only [AOk]
    | some f =>
      simp only
      cases hs : sizeT P f.type with
      | none => simp only [AOk]
      | some sz =>
        simp only
        cases hz : Nat.beq sz 0 with
        | true => simp only [cond_true, AOk]
        | false =>
          have hz' : sz ≠ 0 := by intro e; subst e; simp at hz
          simp only [cond_false, AOk]
          refine ⟨.pointer (some ⟨b, row * st + (col + f.offset), none⟩), ?_, by simp only [Rep]; exact ⟨b, h1, rfl⟩⟩
          have hf' : fs[i]? = some f := by simpa using hf
          simp [execOp, hop, h2, Instr.fieldAt, run_underlying hu, hf', Instr.sureAddr, fieldPlace, run_size hs, hz', Addr.add_lit, Nat.add_assoc]
  · rename_i c x' col fs h hu
    rw [h] at hx; simp only [Rep] at hx
    obtain ⟨b, o', vs, h1, h2, h3⟩ := hx
    simp only [nth_eq]
    cases hf : fs.toList[i]? with
    | none => simp only [AOk]
    | some f =>
      simp only
      cases hs : sizeT P f.type with
      | none => simp only [AOk]
      | some sz =>
        simp only
        cases hz : Nat.beq sz 0 with
        | true => simp only [cond_true, AOk]
        | false =>
          have hz' : sz ≠ 0 := by intro e; subst e; simp at hz
          simp only [cond_false, AOk]
          refine ⟨.pointer (some ⟨b, o' + (col + f.offset), none⟩), ?_, by simp only [Rep]; exact ⟨b, o', vs, rfl, h2, h3⟩⟩
          have hf' : fs[i]? = some f := by simpa using hf
          simp [execOp, hop, h1, Instr.fieldAt, run_underlying hu, hf', Instr.sureAddr, fieldPlace, run_size hs, hz', Addr.add_lit, Nat.add_assoc]
  · simp only [AOk]

theorem addr_add (b o n : Nat) (s : Option Nat) : (⟨b, o, s⟩ : Addr).add n = ⟨b, o + n, if n = 0 then s else none⟩ := by
  unfold Addr.add
  split
  · rename_i h; simp
  · rfl
theorem slD_mk {m : Nat → Nat → Option Value} {c : TC} {xs : List (TCT c)} {v : Value} (h : (v = .slice none 0 0 ∧ xs = []) ∨ ∃ b o s cap us, v = .slice (some ⟨b, o, s⟩) xs.length cap ∧ xs.length ≤ cap ∧ (cap : Int) ≤ maxK .i64 ∧ ((us = [] ∨ s = none) ∧ Reads m b o us) ∧ LR (RepD m c) xs us) : RepD m (.sl c) xs [v] := by
  simp only [RepD]; exact ⟨v, rfl, h⟩
theorem Reads.sub {m : Nat → Nat → Option Value} {b o : Nat} {vs : List Value} (h : Reads m b o vs) (k n : Nat) : Reads m b (o + k) ((vs.drop k).take n) := by
  intro j u hj
  rw [List.getElem?_take] at hj
  split at hj
  · rw [List.getElem?_drop] at hj
    have := h _ _ hj
    rwa [← Nat.add_assoc] at this
  · simp at hj
theorem aok_altN {r : Result Next} {f : Nat → Eff} {n : Int} : ∀ (m k : Nat), (∀ j : Nat, k ≤ j → j < k + m → n = (j : Int) → AOk P σ w r (f j)) → AOk P σ w r (altN f n k m)
  | 0, k, h => by simp only [altN, AOk]
  | m + 1, k, h => by
    simp only [altN, AOk]
    exact ⟨fun hd => h k (Nat.le_refl _) (by omega) (of_decide_eq_true hd), fun _ => aok_altN m (k + 1) fun j h1 h2 => h j (by omega) (by omega)⟩
theorem aok_altIdx {r : Result Next} {len : Nat} {n : Int} {f : Nat → Eff} (h : 0 ≤ n ∧ n < (len : Int) → AOk P σ w r (f n.toNat)) : AOk P σ w r (altIdx len n f) := by
  unfold altIdx
  cases Nat.ble len 8 with
  | true =>
    rw [cond_true]
    refine aok_altN len 0 fun j h1 h2 hj => ?_
    have := h (by omega)
    rwa [show n.toNat = j by omega] at this
  | false =>
    simp only [cond_false, AOk]
    exact fun hd => h (of_decide_eq_true hd)
theorem eff_indexAddr (hρ : ∀ x, Rep σ (s.eval x) (a.eval x)) (o : Oper) (t : TypeId) (x i : Operand) (hop : o.op = .indexAddr t x i) : AOk P σ w ((execOp a.eval o).run P w) (eff P (.indexAddr t x i) s.eval) := by
  have hx := hρ x
  have hi := hρ i
  simp only [eff]
  split
  · rename_i id row st col k n len e h h' hu
    rw [h] at hx; rw [h'] at hi; simp only [Rep] at hx hi
    replace hi := hi.1
    obtain ⟨b, h1, h2⟩ := hx
    cases hs : sizeT P e with
    | none => simp only [AOk]
    | some sz =>
      refine aok_altIdx fun hb' => ?_
      simp only [AOk]
      refine ⟨.pointer (some ⟨b, row * st + (col + n.toNat * sz), none⟩), ?_, by simp only [Rep]; exact ⟨b, h1, rfl⟩⟩
      simp [execOp, hop, h2, hi, Instr.indexAt, asIntOf, run_underlying hu, Instr.sureAddr, run_size hs, hb', Addr.add_lit, Nat.add_assoc]
  · rename_i c y col k n len e h h' hu
    rw [h] at hx; rw [h'] at hi; simp only [Rep] at hx hi
    replace hi := hi.1
    obtain ⟨b, o', vs, h1, h2, h3⟩ := hx
    cases hs : sizeT P e with
    | none => simp only [AOk]
    | some sz =>
      refine aok_altIdx fun hb' => ?_
      simp only [AOk]
      refine ⟨.pointer (some ⟨b, o' + (col + n.toNat * sz), none⟩), ?_, by simp only [Rep]; exact ⟨b, o', vs, rfl, h2, h3⟩⟩
      simp [execOp, hop, h1, hi, Instr.indexAt, asIntOf, run_underlying hu, Instr.sureAddr, run_size hs, hb', Addr.add_lit, Nat.add_assoc]
  · rename_i id off st len cap k n e h h' hu
    rw [h] at hx; rw [h'] at hi; simp only [Rep] at hx hi
    replace hi := hi.1
    obtain ⟨_, _, b, h1, h2⟩ := hx
    cases hs : sizeT P e with
    | none => simp only [AOk]
    | some sz =>
      simp only
      cases hz : Nat.beq st sz with
      | false => simp only [cond_false, AOk]
      | true =>
        have hz' : st = sz := by simpa using hz
        subst hz'
        simp only [cond_true, AOk]
        intro hb
        have hb' := of_decide_eq_true hb
        refine ⟨.pointer (some ⟨b, n.toNat * st + off, none⟩), ?_, by simp only [Rep]; exact ⟨b, h1, rfl⟩⟩
        simp [execOp, hop, h2, hi, Instr.indexAt, asIntOf, run_underlying hu, run_size hs, hb', Addr.add_lit, Nat.add_comm]
  · rename_i c xs k n e h h' hu
    rw [h] at hx; rw [h'] at hi; simp only [Rep] at hx hi
    replace hi := hi.1
    cases hs : sizeT P e with
    | none => simp only [AOk]
    | some sz =>
      simp only
      cases hz : (Nat.beq c.size sz && Nat.ble 1 sz) with
      | false => simp only [cond_false, AOk]
      | true =>
        simp only [Bool.and_eq_true, Nat.beq_eq, Nat.ble_eq] at hz
        obtain ⟨hz, hz1⟩ := hz
        subst hz
        simp only [cond_true, AOk]
        intro hb
        have hb' := of_decide_eq_true hb
        have hlt : n.toNat < xs.length := by omega
        rcases slD_cases hx with ⟨_, rfl⟩ | ⟨b, o', sp, cap, us, h2, h3, h4, ⟨hsp, h5⟩, h6⟩
        · simp at hlt
        · have hne : sp = none := hsp.resolve_left fun e => by
            subst e
            have h7 := LR.len (fun x vs => RepD.len c x vs) h6
            simp only [List.length_nil] at h7
            rcases Nat.mul_eq_zero.1 h7.symm with h7 | h7 <;> omega
          subst hne
          refine ⟨.pointer (some ⟨b, o' + n.toNat * c.size, none⟩), ?_, ?_⟩
          · simp [execOp, hop, h2, hi, Instr.indexAt, asIntOf, run_underlying hu, run_size hs, hb', Addr.add_lit]
          · simp only [Rep]
            exact ⟨b, o' + n.toNat * c.size, _, rfl, h5.sub _ c.size, LR.get (fun x vs => RepD.len c x vs) n.toNat _ h6 hlt⟩
  · rename_i id k n e h h' hu
    rw [h] at hx; rw [h'] at hi; simp only [Rep] at hx hi
    replace hi := hi.1
    cases hs : sizeT P e with
    | none => simp only [AOk]
    | some sz =>
      simp only [AOk]
      intro b len cap h1 h2 h3
      rw [hx.1] at h1
      have hv := Option.some.inj h1
      simp [execOp, hop, hi, Instr.indexAt, asIntOf, run_underlying hu, run_size hs, h2, h3, hv, Addr.add_lit]
  · simp only [AOk]

theorem eff_index (hρ : ∀ x, Rep σ (s.eval x) (a.eval x)) (o : Oper) (t : TypeId) (x i : Operand) (hop : o.op = .index t x i) : AOk P σ w ((execOp a.eval o).run P w) (eff P (.index t x i) s.eval) := by
  have hx := hρ x
  have hi := hρ i
  simp only [eff]
  split
  · rename_i s0 k n h h' hu
    rw [h] at hx; rw [h'] at hi; simp only [Rep] at hx hi
    replace hi := hi.1
    simp only [AOk]
    intro hb
    have hb' := of_decide_eq_true hb
    have hlt : n.toNat < s0.size := by omega
    have hget : s0[n.toNat]? = some (s0.data.toList.getD n.toNat 0) := by
      have hlt' : n.toNat < s0.data.size := hlt
      rw [getElem?_pos s0 n.toNat hlt]
      congr 1
      simp only [List.getD, Array.getElem?_toList, Array.getElem?_eq_getElem hlt', Option.getD_some]
      rfl
    refine ⟨_, ?_, rep_int ⟨by simp only [minK]; omega, ?_⟩⟩
    · simp only [execOp, hop, hx, hi, Instr.index, asIntOf, Sem.run_bind, Sem.run_pure, Result.andThen_ok, run_underlying hu, if_pos hb'.1, hget]
    · have := UInt8.toNat_lt (s0.data.toList.getD n.toNat 0)
      simp only [maxK]; omega
  · rename_i cs k n len e h h' hu
    rw [h] at hx; rw [h'] at hi; simp only [Rep] at hx hi
    replace hi := hi.1
    obtain ⟨us, h1, h2⟩ := hx
    cases hs : sizeT P e with
    | none => simp only [AOk]
    | some sz =>
      refine aok_altIdx fun hb' => ?_
      refine aok_opt fun y hy => ?_
      obtain ⟨v, hv1, hv2⟩ := run_part h1 hy w
      refine ⟨v, ?_, hv2⟩
      simp [execOp, hop, h2, hi, Instr.index, asIntOf, run_underlying hu, run_size hs, hb', hv1]
  · simp only [AOk]

theorem eff_alloc (o : Oper) (t : TypeId) (hop : o.op = .alloc t) : AOk P σ w ((execOp a.eval o).run P w) (eff P (.alloc t) s.eval) := by
  simp only [eff]
  cases hz : zeroT P t with
  | none => simp only [AOk]
  | some z =>
    obtain ⟨v, h1, h2⟩ := run_zero (σ := σ) hz w
    simp only [AOk]
    refine ⟨v.cells.toList, .pointer (some ⟨w.heap.size, 0, none⟩), h2, ?_, fun τ i _ hi => ?_⟩
    · simp [execOp, hop, Instr.alloc, h1, newVar, newRow]
    · simp only [Rep]; exact ⟨_, hi, by simp⟩

theorem eff_box (hρ : ∀ x, Rep σ (s.eval x) (a.eval x)) (o : Oper) (t : TypeId) (x : Operand) (hop : o.op = .box t x) : AOk P σ w ((execOp a.eval o).run P w) (eff P (.box t x) s.eval) := by
  simp only [eff]
  cases hc : cellsA (s.eval x) with
  | none => simp only [AOk]
  | some cs =>
    have h2 := rep_cells (hρ x) hc
    simp only [AOk]
    refine ⟨(a.eval x).cells.toList, .pointer (some ⟨w.heap.size, 0, none⟩), h2, ?_, fun τ i _ hi => ?_⟩
    · simp [execOp, hop, Instr.box, newVar, newRow]
    · simp only [Rep]; exact ⟨_, hi, by simp⟩

theorem zeros_rep {σ : Env} {z : List AV} {sz n : Nat} {v : Value} (h2 : RepL σ z v.cells.toList) (h1 : 1 ≤ sz) (hb3 : z.length = sz) : RepL σ (zerosA z sz n) ((List.range n).map (v.cells[· % v.cells.size]!)) := by
  have hvl : v.cells.size = sz := by have := h2.length; simp at this; omega
  refine repL_iff.2 ⟨by simp [zerosA], fun i x u hx hu => ?_⟩
  simp only [zerosA, List.getElem?_map] at hx hu
  cases hr : (List.range n)[i]? with
  | none => simp [hr] at hx
  | some j =>
    simp [hr] at hx hu
    have hj : j % sz < v.cells.toList.length := by simp [hvl]; exact Nat.mod_lt _ (by omega)
    have hjz : j % sz < z.length := by rw [h2.length]; exact hj
    rw [nth_eq, List.getElem?_eq_getElem hjz] at hx
    simp only at hx
    subst hx; subst hu
    refine (repL_iff.1 h2).2 (j % sz) _ _ (List.getElem?_eq_getElem hjz) ?_
    rw [hvl, getElem!_pos v.cells (j % sz) (by simpa using hj)]
    rw [List.getElem?_eq_getElem hj]
    simp

theorem zeros_list {m : Nat → Nat → Option Value} {c : TC} {x : TCT c} {cells : List Value} (h : RepD m c x cells) (_hz : 0 < c.size) : ∀ (l : Nat), LR (RepD m c) (List.replicate l x) ((List.range (l * c.size)).map fun j => cells[j % c.size]!) := by
  have hlen := RepD.len c x cells h
  intro l
  induction l with
  | zero => simp [LR]
  | succ l ih =>
    simp only [List.replicate_succ]
    refine ⟨cells, (List.range (l * c.size)).map fun j => cells[j % c.size]!, ?_, h, ih⟩
    rw [Nat.add_mul, Nat.one_mul, Nat.add_comm (l * c.size), List.range_add, List.map_append, List.map_map]
    congr 1
    · refine List.ext_getElem (by simp [hlen]) fun i h1 h2 => ?_
      simp at h1
      rw [List.getElem_map, List.getElem_range, Nat.mod_eq_of_lt h1, getElem!_pos cells i (by omega)]
    · refine List.map_congr_left fun j _ => ?_
      simp
theorem zeroCells_list (z : Array Value) (n : Nat) : (Builtin.zeroCells z n).toList = (List.range (n * z.size)).map fun j => z.toList[j % z.size]! := by
  unfold Builtin.zeroCells
  rw [Array.toList_map, Array.toList_range]
  refine List.map_congr_left fun j _ => ?_
  rw [List.getElem!_eq_getElem?_getD, Array.getElem!_eq_getD, Array.getD_eq_getD_getElem?, Array.getElem?_toList]
theorem aok_appZ {σ : Env} {w : World} {ats : Array TypeId} {t u tr : TypeId} {x y : AV} {v v' : Value} {r : Result Next} (hx : Rep σ x v) (hy : Rep σ y v') (h0 : ats[0]? = some t) (h1 : ats[1]? = some u)
    (hr : r = (do pure (Next.value (← Builtin.append_ ats tr #[v, v'])) : Sem Next).run P w) : AOk P σ w r (appZ P t u x y) := by
  unfold appZ
  split
  · rename_i k n e kn ht hu
    simp only [Rep] at hx hy
    subst hx
    obtain ⟨rfl, hk⟩ := hy
    split
    · rename_i sz z by' hs hz hby
      cases hb : (Nat.ble 1 sz && Nat.beq (lenA z) sz) with
      | false => simp only [cond_false, AOk]
      | true =>
        simp only [Bool.and_eq_true, Nat.ble_eq, Nat.beq_eq, lenA_eq] at hb
        simp only [cond_true, AOk]
        intro htest
        obtain ⟨t1, t2, t3⟩ := of_decide_eq_true htest
        unfold bytesT at hby
        unfold sizeT at hs
        cases hie : P.info? e with
        | none => simp [hie] at hby
        | some ie =>
          simp [hie] at hby hs
          subst hby hs
          split
          · rename_i d hd
            split
            · rename_i xd hxd
              cases hds : Nat.beq d.size ie.size with
              | false => simp only [cond_false, AOk]
              | true =>
                have hds' : d.size = ie.size := by simpa using hds
                simp only [cond_true, AOk]
                have hz' := hz
                unfold zeroT at hz'
                cases hiz : ie.zero with
                | none => simp [hie, hiz] at hz'
                | some zv =>
                  simp [hie, hiz] at hz'
                  have hzl : zv.cells.size = ie.size := by have : zv.cells.size = z.length := by rw [← hz']; simp
                                                           omega
                  obtain ⟨zv', hv1, hv2⟩ := run_zero (σ := σ) hz w
                  have hzz : zv' = zv := by simpa [zeroValue, typeInfo, hie, hiz] using hv1.symm
                  subst hzz
                  have hxr := dec_all hxd hv2
                  have en : ((n.toNat : Nat) : Int) = n := by omega
                  have hbb : n.toNat * ie.bytes ≤ 281474976710656 := by
                    have : ((n.toNat * ie.bytes : Nat) : Int) ≤ 281474976710656 := by rw [Int.natCast_mul, en]; exact t3
                    omega
                  have hrun := Go.Lib.run_append_nil_zeros (P := P) w t u tr e ie zv' k kn ht hu hie hiz n.toNat (by omega) (by omega) (by omega) hbb
                  rw [en] at hrun
                  have key : Builtin.append_ ats tr #[.slice none 0 0, .int k n] = Builtin.append_ #[t, u] tr #[.slice none 0 0, .int k n] := by
                    simp only [Builtin.append_, h0, h1]
                    rfl
                  have hcap := grownCap_ge w n.toNat 0 e
                  have hmx := grownCap_le_maxLen w n.toNat 0 e (by simp only [maxLen]; omega)
                  refine ⟨(Builtin.zeroCells zv'.cells n.toNat ++ Builtin.zeroCells zv'.cells (grownCap w n.toNat 0 e - n.toNat)).toList, grownCap w n.toNat 0 e, ?_, ?_, by rw [List.length_replicate]; exact hcap, hmx, by omega, ?_⟩
                  · rw [hr, key, List.length_replicate, Array.toArray_toList]
                    simp only [Sem.run_bind, hrun, Result.andThen_ok, Sem.run_pure]
                  · rw [Array.toList_append, List.length_append, Array.length_toList, Array.length_toList, size_zeroCells, size_zeroCells, hzl, hds', ← Nat.add_mul]
                    congr 1
                    omega
                  · have hzl2 := zeros_list hxr (by omega) n.toNat
                    rw [List.length_replicate, Array.toList_append]
                    have hl1 : (Builtin.zeroCells zv'.cells n.toNat).toList.length = n.toNat * d.size := by rw [Array.length_toList, size_zeroCells, hzl, hds']
                    rw [← hl1, List.take_left, zeroCells_list, hzl]
                    rw [hds'] at hzl2
                    exact hzl2
            · simp only [AOk]
          · simp only [AOk]
    · simp only [AOk]
  · simp only [AOk]

theorem eff_buildSlice (hρ : ∀ x, Rep σ (s.eval x) (a.eval x)) (o : Oper) (t : TypeId) (len : Nat) (parts : Array (Nat × Operand)) (hop : o.op = .buildSlice t len parts) : AOk P σ w ((execOp a.eval o).run P w) (eff P (.buildSlice t len parts) s.eval) := by
  simp only [eff]
  split
  · rename_i e hu
    split
    · rename_i sz z hs hz
      cases hb : (Nat.ble (len * sz) 4096 && (Nat.ble 1 sz && Nat.beq (lenA z) sz)) with
      | false => simp only [cond_false, AOk]
      | true =>
        simp only [Bool.and_eq_true, Nat.ble_eq, Nat.beq_eq, lenA_eq] at hb
        obtain ⟨hb1, hb2, hb3⟩ := hb
        simp only [cond_true]
        split
        · rename_i cs hf
          have hpl : (parts.toList.map fun p => (p.1, s.eval p.2)).length = (parts.map fun (i, x) => (i, a.eval x)).toList.length ∧ ∀ (i : Nat) (p : Nat × AV) (q : Nat × Value), (parts.toList.map fun p => (p.1, s.eval p.2))[i]? = some p → (parts.map fun (i, x) => (i, a.eval x)).toList[i]? = some q → p.1 = q.1 ∧ Rep σ p.2 q.2 := by
            refine ⟨by simp, fun i p q hp hq => ?_⟩
            simp only [Array.toList_map, List.getElem?_map] at hp hq
            cases hi : parts.toList[i]? with
            | none => simp [hi] at hp
            | some e =>
              simp [hi] at hp hq
              subst hp; subst hq
              exact ⟨rfl, hρ _⟩
          obtain ⟨v, h1, h2⟩ := run_zero (σ := σ) hz w
          have hvl : v.cells.size = sz := by have := h2.length; simp at this; omega
          have hrep := zeros_rep (σ := σ) (n := len * sz) h2 hb2 hb3
          obtain ⟨us, h3, h4, h5⟩ := fill_rep _ _ _ _ _ _ hrep hpl hf
          have hlen5 : us.length = len * sz := by rw [h5]; simp
          have hrun : (execOp a.eval o).run P w = .ok (.value (.slice (some ⟨w.heap.size, 0, none⟩) len len)) (w.alloc (.cells us.toArray e)) := by
            have hbig : ¬ len * sz > 2 ^ 24 := by omega
            have hcells : (Array.range (len * sz)).map (v.cells[· % v.cells.size]!) = ((List.range (len * sz)).map (v.cells[· % v.cells.size]!)).toArray := by
              apply Array.ext'; simp
            by_cases h0 : len * sz = 0
            · have hz0 : (Array.range (len * sz)).map ((#[] : Array Value)[· % (#[] : Array Value).size]!) = (Array.range (len * sz)).map (v.cells[· % v.cells.size]!) := by
                rw [h0]; simp
              simp only [execOp, hop, Instr.buildSlice, Sem.run_bind, run_underlying hu, Result.andThen_ok, run_size hs, if_neg hbig, if_pos h0, Sem.run_pure, hz0, hcells, h3, newRow, run_newObj]
              rfl
            · simp only [execOp, hop, Instr.buildSlice, Sem.run_bind, run_underlying hu, Result.andThen_ok, run_size hs, if_neg hbig, if_neg h0, h1, Sem.run_pure, hcells, h3, newRow, run_newObj]
              rfl
          have hll : len ≤ len * sz := Nat.le_mul_of_pos_right len (by omega)
          split
          · rename_i x hx
            cases hd : tcOf P 8 e with
            | none => simp [hd] at hx
            | some d =>
              simp only [hd, Option.bind_some] at hx
              cases hbd : Nat.beq d.size sz with
              | false => simp [hbd] at hx
              | true =>
                simp only [hbd, cond_true, Option.map_eq_some_iff] at hx
                obtain ⟨xs, hxs, rfl⟩ := hx
                have hsz : d.size = sz := by simpa using hbd
                have hcl : cs.length = len * d.size := by have := h4.length; rw [hsz]; omega
                obtain ⟨k1, k2⟩ := decRows_rep len cs us xs hxs h4 hcl
                simp only [AOk]
                refine ⟨us, len, by rw [k2]; exact hrun, by rw [hsz]; exact hlen5, by omega, by simp only [maxLen]; omega, by omega, ?_⟩
                rw [k2, hsz, ← hlen5, List.take_length]
                exact k1
          · simp only [AOk]
            refine ⟨us, .slice (some ⟨w.heap.size, 0, none⟩) len len, h4, hrun, fun τ i _ hi => ?_⟩
            simp only [Rep]
            refine ⟨⟨?_, Nat.le_refl _⟩, ?_, _, hi, by simp⟩ <;> (simp only [maxK]; omega)
        · simp only [AOk]
    · simp only [AOk]
  · simp only [AOk]

theorem max_run : ∀ (l : List AV) (vs : List Value) (k : IntKind) (x : Int) (y : AV), inK k x → RepL σ l vs → maxA k x l = some y → ∃ v, (vs.foldlM Builtin.max2 (.int k x)).run P w = .ok v w ∧ Rep σ y v
  | [], vs, k, x, y, hx, h, hm => by
    simp only [RepL] at h; subst h
    simp [maxA] at hm; subst hm
    exact ⟨_, rfl, rep_int hx⟩
  | z :: l, vs, k, x, y, hx, h, hm => by
    simp only [RepL] at h
    obtain ⟨v, us, rfl, h1, h2⟩ := h
    cases z <;> simp only [maxA] at hm <;> try (simp at hm; done)
    rename_i k' n
    by_cases hk : k = k'
    · subst hk
      simp only [decide_true, cond_true] at hm
      simp only [Rep] at h1
      obtain ⟨rfl, h1⟩ := h1
      obtain ⟨r, hr1, hr2⟩ := max_run l us k _ y (by unfold inK at *; omega) h2 hm
      refine ⟨r, ?_, hr2⟩
      simp only [List.foldlM_cons, Builtin.max2, Sem.run_bind, Sem.run_pure, Result.andThen_ok]
      rw [show (if n > x then n else x) = max x n by split <;> omega]
      exact hr1
    · simp [hk] at hm
theorem min_run : ∀ (l : List AV) (vs : List Value) (k : IntKind) (x : Int) (y : AV), inK k x → RepL σ l vs → minA k x l = some y → ∃ v, (vs.foldlM Builtin.min2 (.int k x)).run P w = .ok v w ∧ Rep σ y v
  | [], vs, k, x, y, hx, h, hm => by
    simp only [RepL] at h; subst h
    simp [minA] at hm; subst hm
    exact ⟨_, rfl, rep_int hx⟩
  | z :: l, vs, k, x, y, hx, h, hm => by
    simp only [RepL] at h
    obtain ⟨v, us, rfl, h1, h2⟩ := h
    cases z <;> simp only [minA] at hm <;> try (simp at hm; done)
    rename_i k' n
    by_cases hk : k = k'
    · subst hk
      simp only [decide_true, cond_true] at hm
      simp only [Rep] at h1
      obtain ⟨rfl, h1⟩ := h1
      obtain ⟨r, hr1, hr2⟩ := min_run l us k _ y (by unfold inK at *; omega) h2 hm
      refine ⟨r, ?_, hr2⟩
      simp only [List.foldlM_cons, Builtin.min2, Sem.run_bind, Sem.run_pure, Result.andThen_ok]
      rw [show (if n < x then n else x) = min x n by split <;> omega]
      exact hr1
    · simp [hk] at hm

theorem isSliceO_spec {o : Option TypeId} (h : isSliceO P o = true) : ∃ t e, o = some t ∧ P.underlying t = some (.slice e) := by
  cases o with
  | none => simp [isSliceO] at h
  | some t =>
    simp only [isSliceO] at h
    split at h
    · rename_i e hu; exact ⟨t, e, rfl, hu⟩
    · simp at h
theorem isStringO_spec {o : Option TypeId} (h : isStringO P o = true) : ∃ t, o = some t ∧ P.underlying t = some .string := by
  cases o with
  | none => simp [isStringO] at h
  | some t =>
    simp only [isStringO] at h
    split at h
    · rename_i hu; exact ⟨t, rfl, hu⟩
    · simp at h
theorem run_setObj_it {w : World} {b pos : Nat} {t : ByteArray} (o : Obj) (h : w.heap[b]? = some (.stringIter t pos)) : (setObj b o).run P w = .ok () (w.putObj b o) := by simp [setObj, Sem.run, h, World.putObj]
theorem run_getObj_it {w : World} {b pos : Nat} {t : ByteArray} (h : w.heap[b]? = some (.stringIter t pos)) : (getObj b).run P w = .ok (.stringIter t pos) w := by simp [getObj, Sem.run, h]
theorem zeroD_spec {σ : Env} {t : TypeId} {c : TC} {z : TCT c} (h : zeroD P t c = some z) : ∃ zv, (∀ w, (zeroValue t).run P w = .ok zv w) ∧ VR σ.mem c z zv := by
  unfold zeroD at h
  cases hi : P.info? t with
  | none => simp [hi] at h
  | some i =>
    cases hz : i.zero with
    | none => simp [hi, hz] at h
    | some v =>
      simp [hi, hz] at h
      exact ⟨v, fun w => by simp [zeroValue, typeInfo, hi, hz], VR.of h (rep_ofV σ v)⟩
theorem eff_call (hρ : ∀ x, Rep σ (s.eval x) (a.eval x)) (o : Oper) (c : Call) (hop : o.op = .call c) : AOk P σ w ((execOp a.eval o).run P w) (eff P (.call c) s.eval) := by
  have hargs : RepL σ (c.args.toList.map s.eval) (c.args.map a.eval).toList := by simpa using repL_ops hρ c.args.toList
  obtain ⟨callee, args, argTypes⟩ := c
  simp only at hargs
  cases callee with
  | invoke r m => simp only [eff, AOk]
  | value f =>
    simp only [eff]
    split
    · rename_i g first captured hf
      have hfr := hρ f
      rw [hf] at hfr; simp only [Rep] at hfr
      obtain ⟨x, y, h1, h2, h3⟩ := hfr
      simp only [AOk]
      refine ⟨x ++ (args.map a.eval).toList ++ y, (h1.append hargs).append h2, ?_⟩
      have he : (x ++ (args.map a.eval).toList ++ y).toArray = x.toArray ++ args.map a.eval ++ y.toArray := by apply Array.ext'; simp
      rw [he]
      simp only [execOp, hop, resolve, h3, Deferred.ofValue, invoke, Sem.run_bind, Sem.run_pure, Result.andThen_ok]
    · rename_i id hf
      have hfr := hρ f
      rw [hf] at hfr; simp only [Rep] at hfr
      obtain ⟨b, h1, h2⟩ := hfr
      simp only [AOk]
      refine ⟨(args.map a.eval).toList, b, hargs, h1, ?_⟩
      have he : (args.map a.eval).toList.toArray = args.map a.eval := Array.toArray_toList
      rw [he]
      simp [execOp, hop, resolve, h2, Deferred.ofValue, invoke]
    · simp only [AOk]
  | builtin b =>
    generalize hxs : args.toList.map s.eval = xs at hargs
    simp only [eff, hxs, builtinA]
    have hlenrun : b = .len → ∀ (aa : Option Addr) (n cap : Nat) (t e : TypeId), argTypes[0]? = some t → P.underlying t = some (.slice e) → (args.map a.eval)[0]? = some (.slice aa n cap) → (execOp a.eval o).run P w = .ok (.value (.int .i64 n)) w := by
      intro hbl aa n cap t e ht hu h0
      subst hbl
      simp only [execOp, hop, resolve, invoke, builtin, Builtin.len_, ht, h0, Sem.run_bind, Sem.run_pure, Result.andThen_ok, run_underlying hu, goInt]
    have hhead : ∀ (v : Value) (us : List Value), (args.map a.eval).toList = v :: us → (args.map a.eval)[0]? = some v := by
      intro v us h1
      have := congrArg (fun l => l[0]?) h1
      simpa using this
    split
    · rename_i id q st n id' q' st' n'
      simp only [RepL] at hargs
      obtain ⟨v, us, h1, h2, v', us', h1', h2', rfl⟩ := hargs
      subst h1'
      simp only [Rep] at h2 h2'
      obtain ⟨ad, len, cc, ap, cap, k1, rfl, k2, _, k3⟩ := h2
      obtain ⟨ad', len', cc', ap', cap', k1', rfl, k2', _, k3'⟩ := h2'
      split
      · rename_i e hu
        obtain ⟨t, ht, hu⟩ := Option.bind_eq_some_iff.1 hu
        split
        · rename_i sz hs
          cases hb : (Nat.beq id id' && (Nat.beq st 1 && (Nat.beq st' 1 && Nat.beq sz 1))) with
          | false => simp only [cond_false, AOk]
          | true =>
            simp only [Bool.and_eq_true, Nat.beq_eq] at hb
            obtain ⟨rfl, rfl, rfl, rfl⟩ := hb
            rw [k1] at k1'; cases k1'
            simp only [cond_true, AOk]
            have h0 : args.map a.eval = #[.slice ap n cap, .slice ap' n' cap'] := by apply Array.ext'; simpa using h1
            refine ⟨ad, ap, ap', len, cc, cap, cap', t, t, o.type, e, k1, hu, by simpa [sizeT] using hs, k2, k2', by simpa using k3, by simpa using k3', ?_⟩
            simp only [execOp, hop, resolve, invoke, builtin, Sem.run_bind, Sem.run_pure, Result.andThen_ok, h0]
            have key : ∀ tr, Builtin.copy_ argTypes tr #[.slice ap n cap, .slice ap' n' cap'] = Builtin.copy_ #[t, t] tr #[.slice ap n cap, .slice ap' n' cap'] := by
              intro tr
              simp only [Builtin.copy_, ht]
              rfl
            rw [key]
        · simp only [AOk]
      · simp only [AOk]
    · rename_i id off st n cap
      simp only [RepL] at hargs
      obtain ⟨v, us, h1, h2, rfl⟩ := hargs
      simp only [Rep] at h2
      obtain ⟨hlen, _, b, h3, rfl⟩ := h2
      cases hb : isSliceO P argTypes[0]? with
      | false => simp only [cond_false, AOk]
      | true =>
        obtain ⟨t, e, ht, hu⟩ := isSliceO_spec hb
        simp only [cond_true, AOk]
        exact ⟨_, hlenrun rfl _ _ _ t e ht hu (hhead _ _ h1), rep_int ⟨by simp only [minK]; omega, hlen.1⟩⟩
    · rename_i c xs
      simp only [RepL] at hargs
      obtain ⟨v, us, h1, h2, rfl⟩ := hargs
      simp only [Rep] at h2
      cases hb : isSliceO P argTypes[0]? with
      | false => simp only [cond_false, AOk]
      | true =>
        obtain ⟨t, e, ht, hu⟩ := isSliceO_spec hb
        simp only [cond_true, AOk]
        rcases slD_cases h2 with ⟨rfl, rfl⟩ | ⟨b, o', sp, cap, us, rfl, h3, h4, _, _⟩
        · exact ⟨_, hlenrun rfl _ _ _ t e ht hu (hhead _ _ h1), rep_int ⟨by simp [minK], by simp [maxK]⟩⟩
        · exact ⟨_, hlenrun rfl _ _ _ t e ht hu (hhead _ _ h1), rep_int ⟨by simp only [minK]; omega, by omega⟩⟩
    · rename_i id
      simp only [RepL] at hargs
      obtain ⟨v, us, h1, h2, rfl⟩ := hargs
      simp only [Rep] at h2
      cases hb : isSliceO P argTypes[0]? with
      | false => simp only [cond_false, AOk]
      | true =>
        obtain ⟨t, e, ht, hu⟩ := isSliceO_spec hb
        simp only [cond_true, AOk]
        intro aa n cap hsv
        rw [h2.1] at hsv
        cases hsv
        exact hlenrun rfl _ _ _ t e ht hu (hhead _ _ h1)
    · simp only [RepL] at hargs
      obtain ⟨v, us, h1, h2, rfl⟩ := hargs
      simp only [Rep] at h2
      subst h2
      cases hb : isSliceO P argTypes[0]? with
      | false => simp only [cond_false, AOk]
      | true =>
        obtain ⟨t, e, ht, hu⟩ := isSliceO_spec hb
        simp only [cond_true, AOk]
        exact ⟨_, hlenrun rfl _ _ _ t e ht hu (hhead _ _ h1), rep_int ⟨by simp [minK], by simp [maxK]⟩⟩
    · rename_i u
      simp only [RepL] at hargs
      obtain ⟨v, us, h1, h2, rfl⟩ := hargs
      simp only [Rep] at h2
      subst h2
      cases hb : isStringO P argTypes[0]? with
      | false => simp only [cond_false, AOk]
      | true =>
        obtain ⟨t, ht, hu⟩ := isStringO_spec hb
        simp only [cond_true, AOk]
        intro hk
        refine ⟨_, ?_, rep_int (inKB_spec.1 hk)⟩
        simp only [execOp, hop, resolve, invoke, builtin, Builtin.len_, ht, hhead _ _ h1, Sem.run_bind, Sem.run_pure, Result.andThen_ok, run_underlying hu, goInt]
    · simp only [RepL] at hargs
      obtain ⟨v, us, h1, h2, rfl⟩ := hargs
      simp only [Rep] at h2
      subst h2
      cases hb : isSliceO P argTypes[0]? with
      | false => simp only [cond_false, AOk]
      | true =>
        obtain ⟨t, e, ht, hu⟩ := isSliceO_spec hb
        simp only [cond_true, AOk]
        refine ⟨_, ?_, rep_int ⟨by simp [minK], by simp [maxK]⟩⟩
        simp only [execOp, hop, resolve, invoke, builtin, Builtin.cap_, ht, hhead _ _ h1, Sem.run_bind, Sem.run_pure, Result.andThen_ok, run_underlying hu, goInt]
        rfl
    · rename_i x y
      simp only [RepL] at hargs
      obtain ⟨v, us, h1, h2, v', us', h1', h2', rfl⟩ := hargs
      subst h1'
      split
      · rename_i t u ht hu
        cases hbt : Nat.beq t u with
        | false =>
          simp only [cond_false]
          have h0 : args.map a.eval = #[v, v'] := by apply Array.ext'; simpa using h1
          exact aok_appZ (ats := argTypes) (tr := o.type) h2 h2' ht hu (by simp only [execOp, hop, resolve, invoke, builtin, Sem.run_bind, Sem.run_pure, Result.andThen_ok, h0])
        | true =>
          have htu : t = u := by simpa using hbt
          subst htu
          simp only [cond_true]
          split
          · rename_i e hte
            split
            · rename_i sz by' z hs hby hz
              cases hb : (Nat.ble 1 sz && (decide (1 ≤ by') && Nat.beq (lenA z) sz)) with
              | false => simp only [cond_false, AOk]
              | true =>
                simp only [Bool.and_eq_true, Nat.ble_eq, decide_eq_true_eq, Nat.beq_eq, lenA_eq] at hb
                obtain ⟨hb1, hb2, hb3⟩ := hb
                simp only [cond_true, AOk]
                unfold bytesT at hby
                unfold sizeT at hs
                unfold zeroT at hz
                cases hie : P.info? e with
                | none => simp [hie] at hby
                | some ie =>
                  cases hiz : ie.zero with
                  | none => simp [hie, hiz] at hz
                  | some zv =>
                    simp [hie] at hby hs
                    simp [hie, hiz] at hz
                    have hzl : zv.cells.size = z.length := by rw [← hz]; simp
                    refine ⟨t, o.type, v, v', ie, zv, h2, h2', hte, rfl, hiz, hs, by omega, by omega, by omega, by omega, ?_⟩
                    have h0 : args.map a.eval = #[v, v'] := by apply Array.ext'; simpa using h1
                    have hat : argTypes[0]? = some t ∧ argTypes[1]? = some t := ⟨ht, hu⟩
                    simp only [execOp, hop, resolve, invoke, builtin, Sem.run_bind, Sem.run_pure, Result.andThen_ok, h0]
                    have key : ∀ tr, Builtin.append_ argTypes tr #[v, v'] = Builtin.append_ #[t, t] tr #[v, v'] := by
                      intro tr
                      simp only [Builtin.append_, ht, hu]
                      rfl
                    rw [key]
            · simp only [AOk]
          · simp only [AOk]
      · simp only [AOk]
    · rename_i id k
      simp only [RepL] at hargs
      obtain ⟨v, us, h1, h2, v', us', h1', h2', rfl⟩ := hargs
      subst h1'
      simp only [Rep] at h2
      obtain ⟨b, hb, rfl⟩ := h2
      split
      · rename_i kt vt hu
        obtain ⟨t, ht, hu⟩ := Option.bind_eq_some_iff.1 hu
        split
        · rename_i kc hkc
          cases hk : keyT P 8 kt kc with
          | false => simp only [cond_false, AOk]
          | true =>
            simp only [cond_true]
            split
            · rename_i y hy
              have h0 : args.map a.eval = #[.map (some b), v'] := by apply Array.ext'; simpa using h1
              simp only [AOk]
              exact ⟨b, argTypes, o.type, t, kt, vt, v', hb, ht, hu, hk, VR.of hy h2', by simp [execOp, hop, resolve, invoke, builtin, h0]⟩
            · simp only [AOk]
        · simp only [AOk]
      · simp only [AOk]
    · rename_i id
      simp only [RepL] at hargs
      obtain ⟨v, us, h1, h2, rfl⟩ := hargs
      simp only [Rep] at h2
      obtain ⟨b, hb, rfl⟩ := h2
      split
      · rename_i kt vt hu
        obtain ⟨t, ht, hu⟩ := Option.bind_eq_some_iff.1 hu
        have h0 : args.map a.eval = #[.map (some b)] := by apply Array.ext'; simpa using h1
        simp only [AOk]
        exact ⟨b, argTypes, o.type, t, kt, vt, hb, ht, hu, by simp [execOp, hop, resolve, invoke, builtin, h0]⟩
      · simp only [AOk]
    · rename_i k x l
      simp only [RepL] at hargs
      obtain ⟨v, us, h1, h2, h3⟩ := hargs
      simp only [Rep] at h2
      obtain ⟨rfl, hin⟩ := h2
      refine aok_opt fun y hy => ?_
      obtain ⟨r, hr1, hr2⟩ := max_run (w := w) (P := P) l us k x y hin h3 hy
      refine ⟨r, ?_, hr2⟩
      simp only [execOp, hop, resolve, invoke, builtin, Builtin.max_, h1, Sem.run_bind, Sem.run_pure, Result.andThen_ok, hr1]
    · rename_i k x l
      simp only [RepL] at hargs
      obtain ⟨v, us, h1, h2, h3⟩ := hargs
      simp only [Rep] at h2
      obtain ⟨rfl, hin⟩ := h2
      refine aok_opt fun y hy => ?_
      obtain ⟨r, hr1, hr2⟩ := min_run (w := w) (P := P) l us k x y hin h3 hy
      refine ⟨r, ?_, hr2⟩
      simp only [execOp, hop, resolve, invoke, builtin, Builtin.min_, h1, Sem.run_bind, Sem.run_pure, Result.andThen_ok, hr1]
    · simp only [AOk]

theorem run_bound {x : Value} {k : IntKind} {n : Int} (hx : x = .int k n) (y : Nat) (code : BoundsCode) (h : 0 ≤ n ∧ n ≤ y) (w : World) : (Instr.sliceBound x y code).run P w = .ok n.toNat w := by
  subst hx
  simp only [Instr.sliceBound, asIntOf, Sem.run_bind, Sem.run_pure, Result.andThen_ok, if_pos h]
theorem eff_slice (hρ : ∀ x, Rep σ (s.eval x) (a.eval x)) (o : Oper) (t : TypeId) (x : Operand) (lo hi mx : Option Operand) (hop : o.op = .slice t x lo hi mx) : AOk P σ w ((execOp a.eval o).run P w) (eff P (.slice t x lo hi mx) s.eval) := by
  have hx := hρ x
  simp only [eff]
  split
  · rename_i c xs e h hu
    rw [h] at hx; simp only [Rep] at hx
    have hat : ∀ lo hi : Option Value, Instr.sliceAt t (a.eval x) lo hi none = Instr.sliceAt t (a.eval x) lo hi none := fun _ _ => rfl
    have hres : ∀ (l h : Nat) (b o' : Nat) (sp : Option Nat) (cap : Nat) (us : List Value), l ≤ h → h ≤ xs.length → xs.length ≤ cap → (cap : Int) ≤ maxK .i64 → (us = [] ∨ sp = none) → Reads σ.mem b o' us → LR (RepD σ.mem c) xs us →
        Rep σ (.ro c ((xs.take h).drop l)) (.slice (if cap = l then some ⟨b, o', sp⟩ else some ((⟨b, o', sp⟩ : Addr).add (l * c.size))) (h - l) (cap - l)) := by
      intro l h b o' sp cap us h1 h2 h3 h4 hsp h5 h6
      have hlen : ((xs.take h).drop l).length = h - l := by simp; omega
      simp only [Rep]
      refine slD_mk (.inr ?_)
      have k1 := LR.take (fun x vs => RepD.len c x vs) h h6 h2
      have k2 := LR.drop (fun x vs => RepD.len c x vs) l k1 (by simp; omega)
      have k3 : Reads σ.mem b (o' + l * c.size) ((us.take (h * c.size)).drop (l * c.size)) := by
        rw [List.drop_take]; exact h5.sub _ _
      rw [hlen]
      by_cases hc : cap = l
      · subst hc
        rw [if_pos rfl]
        have e0 : h - cap = 0 := by omega
        have hnil : (xs.take h).drop cap = [] := List.eq_nil_of_length_eq_zero (by omega)
        rw [hnil] at k2 ⊢
        exact ⟨b, o', sp, _, [], rfl, by omega, by omega, ⟨.inl rfl, fun j u hj => by simp at hj⟩, by simp [LR]⟩
      · rw [if_neg hc, addr_add]
        exact ⟨b, o' + l * c.size, _, _, _, rfl, by omega, by omega, ⟨hsp.imp (fun e => by simp [e]) (fun e => by rw [e]; simp), k3⟩, k2⟩
    split
    · rename_i sz k hv hs hlo hhi
      cases hb : Nat.beq c.size sz with
      | false => simp only [cond_false, AOk]
      | true =>
        have hb' : c.size = sz := by simpa using hb
        subst hb'
        simp only [cond_true, AOk]
        intro ht
        have ht' := of_decide_eq_true ht
        obtain ⟨hio, rfl, hie⟩ := Option.map_eq_some_iff.1 hhi
        have hie' := hρ hio
        rw [hie] at hie'; simp only [Rep] at hie'
        have hlo' : lo = none := by cases lo <;> simp at hlo ⊢
        subst hlo'
        rcases slD_cases hx with ⟨h2, rfl⟩ | ⟨b, o', sp, cap, us, h2, h3, h4, ⟨hsp, h5⟩, h6⟩
        · refine ⟨.slice none 0 0, ?_, by simp only [Rep]; exact slD_mk (.inl ⟨rfl, by simp⟩)⟩
          have hz : hv.toNat = 0 := by simp at ht'; omega
          have hb0 := fun code => run_bound (P := P) hie'.1 0 code (by simp at ht' ⊢; omega) w
          simp only [execOp, hop, h2, Instr.sliceAt, Instr.slice, Instr.sliceBounds, Option.map_none, Option.map_some, Sem.run_bind, Sem.run_pure, Result.andThen_ok, run_underlying hu, run_size hs, hb0, hz]
          simp
        · have hb0 := fun code => run_bound (P := P) hie'.1 cap code (by omega) w
          have hr := hres 0 hv.toNat b o' sp cap us (by omega) (by omega) h3 h4 hsp h5 h6
          simp only [List.drop_zero] at hr
          refine ⟨_, ?_, hr⟩
          simp only [execOp, hop, h2, Instr.sliceAt, Instr.slice, Instr.sliceBounds, Option.map_none, Option.map_some, Sem.run_bind, Sem.run_pure, Result.andThen_ok, run_underlying hu, run_size hs, hb0]
    · rename_i sz k lv hs hlo hhi
      cases hb : Nat.beq c.size sz with
      | false => simp only [cond_false, AOk]
      | true =>
        have hb' : c.size = sz := by simpa using hb
        subst hb'
        simp only [cond_true, AOk]
        intro ht
        have ht' := of_decide_eq_true ht
        obtain ⟨loo, rfl, hle⟩ := Option.map_eq_some_iff.1 hlo
        have hle' := hρ loo
        rw [hle] at hle'; simp only [Rep] at hle'
        have hhi' : hi = none := by cases hi <;> simp at hhi ⊢
        subst hhi'
        rcases slD_cases hx with ⟨h2, rfl⟩ | ⟨b, o', sp, cap, us, h2, h3, h4, ⟨hsp, h5⟩, h6⟩
        · refine ⟨.slice none 0 0, ?_, by simp only [Rep]; exact slD_mk (.inl ⟨rfl, by simp⟩)⟩
          have hz : lv.toNat = 0 := by simp at ht'; omega
          have hb0 := fun code => run_bound (P := P) hle'.1 0 code (by simp at ht' ⊢; omega) w
          simp only [execOp, hop, h2, Instr.sliceAt, Instr.slice, Instr.sliceBounds, Option.map_none, Option.map_some, Sem.run_bind, Sem.run_pure, Result.andThen_ok, run_underlying hu, run_size hs, hb0, hz]
          simp
        · have hb0 := fun code => run_bound (P := P) hle'.1 xs.length code (by omega) w
          have hr := hres lv.toNat xs.length b o' sp cap us (by omega) (Nat.le_refl _) h3 h4 hsp h5 h6
          rw [List.take_length] at hr
          refine ⟨_, ?_, hr⟩
          simp only [execOp, hop, h2, Instr.sliceAt, Instr.slice, Instr.sliceBounds, Option.map_none, Option.map_some, Sem.run_bind, Sem.run_pure, Result.andThen_ok, run_underlying hu, run_size hs, hb0]
    · rename_i sz k lv k' hv hs hlo hhi
      cases hb : Nat.beq c.size sz with
      | false => simp only [cond_false, AOk]
      | true =>
        have hb' : c.size = sz := by simpa using hb
        subst hb'
        simp only [cond_true, AOk]
        intro ht
        have ht' := of_decide_eq_true ht
        obtain ⟨loo, rfl, hle⟩ := Option.map_eq_some_iff.1 hlo
        have hle' := hρ loo
        rw [hle] at hle'; simp only [Rep] at hle'
        obtain ⟨hio, rfl, hie⟩ := Option.map_eq_some_iff.1 hhi
        have hie' := hρ hio
        rw [hie] at hie'; simp only [Rep] at hie'
        rcases slD_cases hx with ⟨h2, rfl⟩ | ⟨b, o', sp, cap, us, h2, h3, h4, ⟨hsp, h5⟩, h6⟩
        · refine ⟨.slice none 0 0, ?_, by simp only [Rep]; exact slD_mk (.inl ⟨rfl, by simp⟩)⟩
          have hz : lv.toNat = 0 ∧ hv.toNat = 0 := by simp at ht'; omega
          have hb0 := fun code => run_bound (P := P) hie'.1 0 code (by simp at ht' ⊢; omega) w
          have hb1 := fun code => run_bound (P := P) hle'.1 0 code (by simp at ht' ⊢; omega) w
          simp only [execOp, hop, h2, Instr.sliceAt, Instr.slice, Instr.sliceBounds, Option.map_none, Option.map_some, Sem.run_bind, Sem.run_pure, Result.andThen_ok, run_underlying hu, run_size hs, hb0, hb1, hz.1, hz.2]
          simp
        · have hb0 := fun code => run_bound (P := P) hie'.1 cap code (by omega) w
          have hb1 := fun code => run_bound (P := P) hle'.1 hv.toNat code (by omega) w
          have hr := hres lv.toNat hv.toNat b o' sp cap us (by omega) (by omega) h3 h4 hsp h5 h6
          refine ⟨_, ?_, hr⟩
          simp only [execOp, hop, h2, Instr.sliceAt, Instr.slice, Instr.sliceBounds, Option.map_none, Option.map_some, Sem.run_bind, Sem.run_pure, Result.andThen_ok, run_underlying hu, run_size hs, hb0, hb1]
    · simp only [AOk]
  · rename_i id st col n e h hu
    rw [h] at hx; simp only [Rep] at hx
    obtain ⟨b, h1, h2⟩ := hx
    split
    · rename_i sz hmap hs
      cases hb : (Nat.ble 1 n && Nat.ble n 65536) with
      | false => simp only [cond_false, AOk]
      | true =>
        simp only [Bool.and_eq_true, Nat.ble_eq] at hb
        simp only [cond_true, AOk]
        refine ⟨.slice (some ⟨b, col, none⟩) n n, ?_, by simp only [Rep, maxK]; exact ⟨⟨by omega, Nat.le_refl _⟩, by omega, b, h1, rfl⟩⟩
        have hn : ¬ n = 0 := by omega
        have hhi' : hi = none := by cases hi <;> simp at hmap ⊢
        subst hhi'
        simp [execOp, hop, h2, Instr.sliceAt, Instr.sureAddr, Instr.sliceBounds, run_underlying hu, run_size hs, Addr.add]
    · rename_i k hv sz hhi hs
      cases hb : (Nat.ble 1 n && Nat.ble n 8) with
      | false => simp only [cond_false, AOk]
      | true =>
        simp only [Bool.and_eq_true, Nat.ble_eq] at hb
        rw [cond_true]
        obtain ⟨hio, rfl, hie⟩ := Option.map_eq_some_iff.1 hhi
        have hie' := hρ hio
        rw [hie] at hie'; simp only [Rep] at hie'
        refine aok_altN (n + 1) 0 fun j _ hj hjv => ?_
        subst hjv
        simp only [AOk]
        refine ⟨.slice (some ⟨b, col, none⟩) j n, ?_, by simp only [Rep, maxK]; exact ⟨⟨by omega, by omega⟩, by omega, b, h1, rfl⟩⟩
        have hn : ¬ n = 0 := by omega
        have hb0 := fun code => run_bound (P := P) hie'.1 n code (by omega) w
        simp [execOp, hop, h2, Instr.sliceAt, Instr.sureAddr, Instr.sliceBounds, run_underlying hu, run_size hs, Addr.add, hb0]
    · simp only [AOk]
  · rename_i id e h hu
    rw [h] at hx; simp only [Rep] at hx
    split
    · rename_i sz k hv hs hlo hhi
      obtain ⟨hio, rfl, hie⟩ := Option.map_eq_some_iff.1 hhi
      have hie' := hρ hio
      rw [hie] at hie'; simp only [Rep] at hie'
      have hlo' : lo = none := by cases lo <;> simp at hlo ⊢
      subst hlo'
      cases winH with
      | true =>
        simp only [cond_true, AOk]
        intro v hv'
        rw [hx.1] at hv'; cases hv'
        refine ⟨fun h2 h0 h1 => ?_, fun b len cap h2 h0 h1 h3 => ?_⟩
        · simp only [Option.getD_some] at h1
          have hb0 := fun code => run_bound (P := P) hie'.1 0 code (by omega) w
          simp only [execOp, hop, h2, Instr.sliceAt, Instr.slice, Instr.sliceBounds, Option.map_none, Option.map_some, Sem.run_bind, Sem.run_pure, Result.andThen_ok, run_underlying hu, run_size hs, hb0, h1]
          simp
        · simp only [Option.getD_some] at h1 h3
          have hb0 := fun code => run_bound (P := P) hie'.1 cap code (by omega) w
          simp only [execOp, hop, h2, Instr.sliceAt, Instr.slice, Instr.sliceBounds, Option.map_none, Option.map_some, Sem.run_bind, Sem.run_pure, Result.andThen_ok, run_underlying hu, run_size hs, hb0]
          simp
      | false =>
        simp only [cond_false, AOk]
        refine ⟨_, hx.1, fun h2 h0 => ?_, fun b len cap h2 h0 h1 => ?_⟩
        · have hb0 := fun code => run_bound (P := P) hie'.1 0 code (by omega) w
          simp only [execOp, hop, h2, Instr.sliceAt, Instr.slice, Instr.sliceBounds, Option.map_none, Option.map_some, Sem.run_bind, Sem.run_pure, Result.andThen_ok, run_underlying hu, run_size hs, hb0, h0]
          simp
        · have hb0 := fun code => run_bound (P := P) hie'.1 cap code (by omega) w
          simp only [execOp, hop, h2, Instr.sliceAt, Instr.slice, Instr.sliceBounds, Option.map_none, Option.map_some, Sem.run_bind, Sem.run_pure, Result.andThen_ok, run_underlying hu, run_size hs, hb0]
          simp [Addr.add]
    · rename_i sz k lv hs hlo hhi
      obtain ⟨loo, rfl, hle⟩ := Option.map_eq_some_iff.1 hlo
      have hle' := hρ loo
      rw [hle] at hle'; simp only [Rep] at hle'
      have hhi' : hi = none := by cases hi <;> simp at hhi ⊢
      subst hhi'
      simp only [AOk]
      intro v hv'
      rw [hx.1] at hv'; cases hv'
      refine ⟨fun h2 h0 h1 => ?_, fun b len cap h2 h0 h1 h3 => ?_⟩
      · have hb0 := fun code => run_bound (P := P) hle'.1 0 code (by omega) w
        simp only [execOp, hop, h2, Instr.sliceAt, Instr.slice, Instr.sliceBounds, Option.map_none, Option.map_some, Sem.run_bind, Sem.run_pure, Result.andThen_ok, run_underlying hu, run_size hs, hb0, h0]
        simp
      · simp only [Option.getD_none] at h1 h3 ⊢
        have hb0 := fun code => run_bound (P := P) hle'.1 len code (by omega) w
        simp only [execOp, hop, h2, Instr.sliceAt, Instr.slice, Instr.sliceBounds, Option.map_none, Option.map_some, Sem.run_bind, Sem.run_pure, Result.andThen_ok, run_underlying hu, run_size hs, hb0]
        simp
    · rename_i sz k lv k' hv hs hlo hhi
      obtain ⟨loo, rfl, hle⟩ := Option.map_eq_some_iff.1 hlo
      have hle' := hρ loo
      rw [hle] at hle'; simp only [Rep] at hle'
      obtain ⟨hio, rfl, hie⟩ := Option.map_eq_some_iff.1 hhi
      have hie' := hρ hio
      rw [hie] at hie'; simp only [Rep] at hie'
      simp only [AOk]
      intro v hv'
      rw [hx.1] at hv'; cases hv'
      refine ⟨fun h2 h0 h1 => ?_, fun b len cap h2 h0 h1 h3 => ?_⟩
      · simp only [Option.getD_some] at h1
        have hb0 := fun code => run_bound (P := P) hie'.1 0 code (by omega) w
        have hb1 := fun code => run_bound (P := P) hle'.1 0 code (by omega) w
        simp only [execOp, hop, h2, Instr.sliceAt, Instr.slice, Instr.sliceBounds, Option.map_none, Option.map_some, Sem.run_bind, Sem.run_pure, Result.andThen_ok, run_underlying hu, run_size hs, hb0, h1]
        simp [hb1]
      · simp only [Option.getD_some] at h1 h3 ⊢
        have hb0 := fun code => run_bound (P := P) hie'.1 cap code (by omega) w
        have hb1 := fun code => run_bound (P := P) hle'.1 hv.toNat code (by omega) w
        simp only [execOp, hop, h2, Instr.sliceAt, Instr.slice, Instr.sliceBounds, Option.map_none, Option.map_some, Sem.run_bind, Sem.run_pure, Result.andThen_ok, run_underlying hu, run_size hs, hb0, hb1]
    · simp only [AOk]
  · rename_i e h hu
    rw [h] at hx; simp only [Rep] at hx
    split
    · rename_i sz k hv hs hhi
      obtain ⟨hio, rfl, hie⟩ := Option.map_eq_some_iff.1 hhi
      have hie' := hρ hio
      rw [hie] at hie'; simp only [Rep] at hie'
      simp only [AOk]
      intro h0
      have h0' := of_decide_eq_true h0
      have hb0 := fun code => run_bound (P := P) hie'.1 0 code (by omega) w
      refine ⟨.slice none 0 0, ?_, by simp only [Rep]⟩
      simp only [execOp, hop, hx, Instr.sliceAt, Instr.slice, Instr.sliceBounds, Option.map_none, Option.map_some, Sem.run_bind, Sem.run_pure, Result.andThen_ok, run_underlying hu, run_size hs, hb0, h0']
      simp
    · simp only [AOk]
  · simp only [AOk]

theorem eff_ok (hm : MemOk σ.mem w) (hρ : ∀ x, Rep σ (s.eval x) (a.eval x)) (o : Oper) : AOk P σ w ((execOp a.eval o).run P w) (eff P o.op s.eval) := by
  cases hop : o.op with
  | move x => simp only [eff, AOk]; exact ⟨_, by simp [execOp, hop], hρ x⟩
  | assign x => simp only [eff, AOk]; exact ⟨_, by simp [execOp, hop], hρ x⟩
  | pick c x y =>
    have hc := hρ c
    simp only [eff]
    split
    · rename_i b h1
      rw [h1] at hc; simp only [Rep] at hc
      cases b with
      | true =>
        simp only [cond_true, AOk]
        exact ⟨_, by simp [execOp, hop, hc, asBool], hρ x⟩
      | false =>
        simp only [cond_false, AOk]
        exact ⟨_, by simp [execOp, hop, hc, asBool], hρ y⟩
    · simp only [AOk]
  | alloc t => exact eff_alloc o t hop
  | box t x => exact eff_box hρ o t x hop
  | build t parts => exact eff_build hρ o t parts hop
  | buildSlice t len parts => exact eff_buildSlice hρ o t len parts hop
  | load t x => exact eff_load hm hρ o t x hop
  | store t x y => exact eff_store hρ o t x y hop
  | nilCheck x =>
    have hx := hρ x
    simp only [eff]
    split
    · rename_i id row st col h
      rw [h] at hx
      have hx' := hx
      simp only [Rep] at hx'
      obtain ⟨b, h1, h2⟩ := hx'
      simp only [AOk]
      exact ⟨.pointer (some ⟨b, row * st + col, none⟩), by simp [execOp, hop, h2], by simp only [Rep]; exact ⟨b, h1, rfl⟩⟩
    · rename_i c y col h
      rw [h] at hx
      have hx' := hx
      simp only [Rep] at hx'
      obtain ⟨b, o', vs, h1, h2, h3⟩ := hx'
      simp only [AOk]
      exact ⟨.pointer (some ⟨b, o' + col, none⟩), by simp [execOp, hop, h1], by simp only [Rep]; exact ⟨b, o', vs, rfl, h2, h3⟩⟩
    · rename_i f p q h
      rw [h] at hx
      have hx' := hx
      simp only [Rep] at hx'
      obtain ⟨u, v, h1, h2, h3⟩ := hx'
      simp only [AOk]
      exact ⟨.func (.func f) u.toArray v.toArray, by simp [execOp, hop, h3], by simp only [Rep]; exact ⟨u, v, h1, h2, rfl⟩⟩
    · rename_i id h
      rw [h] at hx
      have hx' := hx
      simp only [Rep] at hx'
      obtain ⟨b, h1, h2⟩ := hx'
      simp only [AOk]
      exact ⟨.func (.yield b) #[] #[], by simp [execOp, hop, h2], by simp only [Rep]; exact ⟨b, h1, rfl⟩⟩
    · simp only [AOk]
  | binOp op t x y ty => simp only [eff]; exact aok_bin op t x y ty o hop (hρ x) (hρ y)
  | unOp op t x => exact eff_un hρ o op t x hop
  | convert src dst x => exact eff_conv hρ o src dst x hop
  | makeFunc fn first captured =>
    simp only [eff, AOk]
    refine ⟨.func fn (first.map a.eval) (captured.map a.eval), by simp [execOp, hop, Instr.makeFunc], ?_⟩
    simp only [Rep]
    refine ⟨first.toList.map a.eval, captured.toList.map a.eval, repL_ops hρ _, repL_ops hρ _, ?_⟩
    congr 1 <;> (apply Array.ext'; simp)
  | makeInterface t x =>
    simp only [eff]
    split
    · simp only [AOk]
    · rename_i d hd hu
      simp only [AOk]
      refine ⟨.iface t (a.eval x), ?_, by simp only [Rep]; exact ⟨_, hρ x, rfl⟩⟩
      cases d with
      | interface m => exact (hd m rfl).elim
      | _ => simp only [execOp, hop, Instr.makeInterface, Sem.run_bind, run_underlying hu, Result.andThen_ok]; rfl
    · simp only [AOk]
  | defer c =>
    obtain ⟨callee, args, argTypes⟩ := c
    cases callee with
    | value f =>
      simp only [eff]
      split
      · rename_i g first captured hf
        have hfr := hρ f
        rw [hf] at hfr; simp only [Rep] at hfr
        obtain ⟨x, y, h1, h2, h3⟩ := hfr
        have hargs : RepL σ (args.toList.map s.eval) (args.map a.eval).toList := by simpa using repL_ops hρ args.toList
        simp only [AOk]
        refine ⟨_, ⟨x ++ (args.map a.eval).toList, y, h1.append hargs, h2, rfl⟩, ?_⟩
        have he : (x ++ (args.map a.eval).toList).toArray = x.toArray ++ args.map a.eval := by apply Array.ext'; simp
        rw [he]
        simp only [execOp, hop, resolve, h3, Deferred.ofValue, Sem.run_bind, Sem.run_pure, Result.andThen_ok]
      · simp only [AOk]
    | _ => simp only [eff, AOk]
  | panic x =>
    have hx := hρ x
    simp only [eff]
    split
    · rename_i t y h
      rw [h] at hx
      have hx' := hx
      simp only [Rep] at hx'
      obtain ⟨u, _, h2⟩ := hx'
      simp only [AOk]
      refine ⟨.iface t u, by rw [← h2]; exact hx, ?_⟩
      simp only [execOp, hop, h2, Instr.panic, goPanic, Sem.run_bind]
      rfl
    · simp only [AOk]
  | typeAssert x xt t ok =>
    have hx := hρ x
    cases ok with
    | false => simp only [eff, AOk]
    | true =>
      simp only [eff]
      split
      · rename_i u y d h hu
        rw [h] at hx; simp only [Rep] at hx
        obtain ⟨v, h1, h2⟩ := hx
        split
        · simp only [AOk]
        · rename_i hd
          cases hb : Nat.beq u t with
          | false => simp only [cond_false, AOk]
          | true =>
            have hut : u = t := by simpa using hb
            subst hut
            simp only [cond_true, AOk]
            refine ⟨.tuple #[v, .bool true], ?_, by simp only [Rep, RepL]; exact ⟨[v, .bool true], ⟨v, _, rfl, h1, _, _, rfl, rfl, rfl⟩, rfl⟩⟩
            cases d with
            | interface m => exact (hd m rfl).elim
            | _ => simp [execOp, hop, h2, Instr.typeAssert, run_underlying hu]
      · rename_i d h hu
        rw [h] at hx; simp only [Rep] at hx
        split
        · simp only [AOk]
        · rename_i hd
          have hfail : ∀ v : Value, (zeroValue t).run P w = .ok v w → (execOp a.eval o).run P w = .ok (.value (.tuple #[v, .bool false])) w := by
            intro v hv
            cases d with
            | interface m => exact (hd m rfl).elim
            | _ => simp [execOp, hop, hx, Instr.typeAssert, run_underlying hu, hv]
          split
          · rename_i k n hz
            cases hk : inKB k n with
            | false => simp only [cond_false, AOk]
            | true =>
              simp only [cond_true, AOk]
              have hv : (zeroValue t).run P w = .ok (.int k n) w := by
                cases hi : P.info? t with
                | none => simp [hi] at hz
                | some i => simp [hi] at hz; simp [zeroValue, typeInfo, hi, hz]
              refine ⟨.tuple #[.int k n, .bool false], hfail _ hv, by simp only [Rep, RepL]; exact ⟨[.int k n, .bool false], ⟨_, _, rfl, ⟨rfl, inKB_spec.1 hk⟩, _, _, rfl, rfl, rfl⟩, rfl⟩⟩
          · simp only [AOk]
      · simp only [AOk]
  | slice t x lo hi mx => exact eff_slice hρ o t x lo hi mx hop
  | fieldAddr t x i => exact eff_fieldAddr hρ o t x i hop
  | field t x i => exact eff_field hρ o t x i hop
  | indexAddr t x i => exact eff_indexAddr hρ o t x i hop
  | index t x i => exact eff_index hρ o t x i hop
  | makeSlice t l c =>
    have hl := hρ l
    have hc := hρ c
    simp only [eff]
    split
    · rename_i k1 l' k2 c' e h1 h2 hu
      rw [h1] at hl; rw [h2] at hc; simp only [Rep] at hl hc
      obtain ⟨hl, hl'⟩ := hl
      obtain ⟨hc, hc'⟩ := hc
      split
      · rename_i sz z by' hs hz hby
        cases hb : (Nat.ble 1 sz && Nat.beq (lenA z) sz) with
        | false => simp only [cond_false, AOk]
        | true =>
          simp only [Bool.and_eq_true, Nat.ble_eq, Nat.beq_eq, lenA_eq] at hb
          simp only [cond_true, AOk]
          intro ht
          obtain ⟨t1, t2, t3, t4⟩ := of_decide_eq_true ht
          obtain ⟨v, hv1, hv2⟩ := run_zero (σ := σ) hz w
          have hvl : v.cells.size = sz := by have := hv2.length; simp at this; omega
          unfold bytesT at hby
          cases hie : P.info? e with
          | none => simp [hie] at hby
          | some ie =>
            simp [hie] at hby
            subst hby
            have hsz : ie.size = sz := by unfold sizeT at hs; simp [hie] at hs; exact hs
            have w1 : IntKind.i64.wrap l' = l' := by unfold IntKind.wrap; simp [IntKind.bits, IntKind.signed]; split <;> omega
            have w2 : IntKind.i64.wrap c' = c' := by unfold IntKind.wrap; simp [IntKind.bits, IntKind.signed]; split <;> omega
            have hrep := zeros_rep (σ := σ) (n := c'.toNat * sz) hv2 hb.1 hb.2
            have hcells : (Array.range (c'.toNat * sz)).map (v.cells[· % v.cells.size]!) = ((List.range (c'.toNat * sz)).map (v.cells[· % v.cells.size]!)).toArray := by
              apply Array.ext'; simp
            have hrun : (execOp a.eval o).run P w = .ok (.value (.slice (some ⟨w.heap.size, 0, none⟩) l'.toNat c'.toNat)) (w.alloc (.cells ((List.range (c'.toNat * sz)).map (v.cells[· % v.cells.size]!)).toArray e)) := by
              have ht1 : ¬ (c' < 0 ∨ (ie.bytes : Int) * c' > 2 ^ 48) := by omega
              have hz0 : c'.toNat * sz = 0 → (Array.range (c'.toNat * sz)).map ((#[] : Array Value)[· % (#[] : Array Value).size]!) = (Array.range (c'.toNat * sz)).map (v.cells[· % v.cells.size]!) := by
                intro e; rw [e]; simp
              have hti : (typeInfo e).run P w = .ok ie w := by simp [typeInfo, hie]
              have c1 : (decide (c' < 0) || decide ((ie.bytes : Int) * c' > 2 ^ 48) || decide (l' < 0) || decide (l' > c')) = false := by simp; omega
              simp only [execOp, hop, hl, hc, Instr.makeSlice, asInt, asIntOf, Sem.run_bind, Sem.run_pure, Result.andThen_ok, run_underlying hu, hti, w1, w2, c1, Bool.false_eq_true, if_false, run_askRoom, run_size hs]
              by_cases h0 : c'.toNat * sz = 0
              · simp only [if_pos h0, Sem.run_pure, Result.andThen_ok, newRow, Sem.run_bind, run_newObj, hz0 h0, hcells]
                rfl
              · simp only [if_neg h0, Sem.run_bind, hv1, Sem.run_pure, Result.andThen_ok, newRow, run_newObj, hcells]
                rfl
            split
            · rename_i d hd
              split
              · rename_i x hx
                cases hds : Nat.beq d.size sz with
                | false => simp only [cond_false, AOk]
                | true =>
                  have hds' : d.size = sz := by simpa using hds
                  simp only [cond_true, AOk]
                  have hxr := dec_all hx hv2
                  have hzl := zeros_list hxr (by omega) l'.toNat
                  refine ⟨_, c'.toNat, by rw [List.length_replicate]; exact hrun, by simp [hds'], by simp; omega, by simp only [maxLen]; omega, by omega, ?_⟩
                  rw [List.length_replicate, hds', ← List.map_take, List.take_range, Nat.min_eq_left (Nat.mul_le_mul_right sz (by omega))]
                  rw [hds'] at hzl
                  rw [hvl]
                  have he : (fun j => v.cells.toList[j % sz]!) = fun j => v.cells[j % sz]! := by funext j; rw [List.getElem!_eq_getElem?_getD, Array.getElem!_eq_getD, Array.getD_eq_getD_getElem?, Array.getElem?_toList]
                  rw [he] at hzl
                  exact hzl
              · simp only [AOk]
            · simp only [AOk]
              refine ⟨_, .slice (some ⟨w.heap.size, 0, none⟩) l'.toNat c'.toNat, hrep, hrun, fun τ i _ hi => ?_⟩
              simp only [Rep]
              exact ⟨⟨by simp only [maxK]; omega, by omega⟩, by simp only [maxK]; omega, _, hi, by simp⟩
      · simp only [AOk]
    · simp only [AOk]
  | extract x i =>
    have hx := hρ x
    simp only [eff]
    split
    · rename_i vs h
      rw [h] at hx; simp only [Rep] at hx
      obtain ⟨us, h1, h2⟩ := hx
      refine aok_opt fun y hy => ?_
      rw [nth_eq] at hy
      obtain ⟨v, hv1, hv2⟩ := h1.get hy
      refine ⟨v, ?_, hv2⟩
      simp [execOp, hop, h2, Instr.extract, hv1]
    · simp only [AOk]
  | call c => exact eff_call hρ o c hop
  | range t x =>
    have hx := hρ x
    simp only [eff]
    split
    · rename_i u h hu
      rw [h] at hx; simp only [Rep] at hx
      simp only [AOk]
      simp [execOp, hop, hx, Instr.range, run_underlying hu]
    · simp only [AOk]
  | next x b =>
    have hx := hρ x
    cases b with
    | false => simp only [eff, AOk]
    | true =>
      simp only [eff]
      split
      · rename_i id h
        rw [h] at hx; simp only [Rep] at hx
        obtain ⟨b, h1, h2⟩ := hx
        simp only [AOk]
        refine ⟨b, h1, fun t pos hw => ⟨fun hp => ?_, fun hp => ?_⟩⟩
        · simp [execOp, hop, h2, Instr.next, run_getObj_it hw, run_setObj_it _ hw, show pos < t.size by omega, goInt]
        · simp [execOp, hop, h2, Instr.next, run_getObj_it hw, show ¬ pos < t.size by omega]
      · simp only [AOk]
  | makeMap t r =>
    cases r with
    | some r => simp only [eff, AOk]
    | none =>
      simp only [eff]
      split
      · split
        · simp only [AOk]
          simp [execOp, hop, Instr.makeMap, newObj, Sem.run]
        · simp only [AOk]
      · simp only [AOk]
  | lookup t m k ok =>
    have h1 := hρ m
    have h2 := hρ k
    simp only [eff]
    split
    · rename_i id kt vt h hu
      rw [h] at h1; simp only [Rep] at h1
      obtain ⟨b, h3, h4⟩ := h1
      split
      · rename_i kc vc hkc hvc
        cases hk : keyT P 8 kt kc with
        | false => simp only [cond_false, AOk]
        | true =>
          simp only [cond_true]
          split
          · rename_i z y hz hy
            obtain ⟨zv, z1, z2⟩ := zeroD_spec (σ := σ) hz
            simp only [AOk]
            exact ⟨b, t, kt, vt, _, zv, h3, hu, hk, z1 w, z2, VR.of hy h2, by simp [execOp, hop, h4]⟩
          · simp only [AOk]
      · simp only [AOk]
    · simp only [AOk]
  | mapEntry t m k =>
    have h1 := hρ m
    have h2 := hρ k
    simp only [eff]
    split
    · rename_i id kt vt h hu
      rw [h] at h1; simp only [Rep] at h1
      obtain ⟨b, h3, h4⟩ := h1
      split
      · rename_i kc vc hkc hvc
        cases hk : keyT P 8 kt kc with
        | false => simp only [cond_false, AOk]
        | true =>
          simp only [cond_true]
          split
          · rename_i z y hz hy
            obtain ⟨zv, z1, z2⟩ := zeroD_spec (σ := σ) hz
            simp only [AOk]
            exact ⟨b, t, kt, vt, _, zv, h3, hu, hk, z1 w, z2, VR.of hy h2, by simp [execOp, hop, h4]⟩
          · simp only [AOk]
      · simp only [AOk]
    · simp only [AOk]
  | mapUpdate t m k x =>
    have h1 := hρ m
    have h2 := hρ k
    have h5 := hρ x
    simp only [eff]
    split
    · rename_i id kt vt h hu
      rw [h] at h1; simp only [Rep] at h1
      obtain ⟨b, h3, h4⟩ := h1
      split
      · rename_i kc vc hkc hvc
        cases hk : keyT P 8 kt kc with
        | false => simp only [cond_false, AOk]
        | true =>
          simp only [cond_true]
          split
          · rename_i z y hz hy
            simp only [AOk]
            exact ⟨b, t, kt, vt, _, _, h3, hu, hk, VR.of hy h5, VR.of hz h2, by simp [execOp, hop, h4]⟩
          · simp only [AOk]
      · simp only [AOk]
    · simp only [AOk]
  | entryStore t m st x =>
    have h1 := hρ m
    have h2 := hρ st
    have h5 := hρ x
    simp only [eff]
    split
    · rename_i id st' kt vt h hs hu
      rw [h] at h1; simp only [Rep] at h1
      obtain ⟨b, h3, h4⟩ := h1
      rw [hs] at h2; simp only [Rep] at h2
      obtain ⟨h6, n, h7⟩ := h2
      split
      · rename_i vc hvc
        split
        · rename_i y hy
          simp only [AOk]
          exact ⟨b, t, n, _, h3, by rw [h6, h7], VR.of hy h5, by simp [execOp, hop, h4, h7]⟩
        · simp only [AOk]
      · simp only [AOk]
    · simp only [AOk]
  | _ => simp only [eff, AOk]
end
end V
end Go.Proofs.Ytgchccljmjmibaa
