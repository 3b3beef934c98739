/- That the symbolic evaluator of the text Va is sound, second part: the call's own blocks, lists and loops; operations in order. -/
import Derived.Test.YtdblbofagfhlbaaVM
import Derived.Test.YtdblbofagfhlbaaVR
import Derived.Laws.AppendOwn
import Derived.Below
import Derived.ProofKit
namespace Go.Proofs.Ytdblbofagfhlbaa
open Go.RowKit
namespace V

/-- a loop's record -/
structure LpRel (σ : Env) (r : LoopR) (L : Loop) : Prop where
  tm : ∀ t, Rep σ (r.tm t) (L.tmps.getD t undef)
  n : L.tmps.size = r.n
  fn : L.fn = r.fn
  params : L.params.toList = r.params
  assign : L.assign = r.assign
  body : L.body = r.body
  st : L.state = r.st
  pend : L.pending = r.pend
/-- an object of the call's own -/
def ObRel (B : Nat) (σ : Env) (w : World) (id : Nat) : Ob → Prop
  | .blk b => ∃ n vs, σ id = some n ∧ w.heap[n]? = some (.cells (List.toArray vs) b.ty (0, 0)) ∧ RepL σ b.cs vs ∧ B ≤ n
  | .arr A => ∃ v us, σ.sv id = some v ∧ w.ownsRow B A.ty A.c.size v A.xs.length us ∧ LR (RepD σ.mem A.c) A.xs us ∧ 0 < A.c.size ∧ ∀ n, v.ownBlock = some n ↔ σ id = some n
  | .lp r => ∃ n L, σ id = some n ∧ w.heap[n]? = some (.loop L) ∧ LpRel σ r L ∧ B ≤ n
  | .dfr => ∃ n, σ id = some n ∧ w.heap[n]? = some (.deferred (some [])) ∧ B ≤ n
  | .it t pos => ∃ n, σ id = some n ∧ w.heap[n]? = some (.stringIter t pos) ∧ B ≤ n
  | .mp M => ∃ n es clock, σ id = some n ∧ w.heap[n]? = some (.map es clock) ∧ MapRel σ.mem σ.sv M es clock ∧ B ≤ n

/-- objects that stay as they are, whoever runs -/
structure KpOk (σ : Env) (hp : Heap) (w : World) : Prop where
  sz : σ.sz ≤ w.heap.size
  ok : ∀ n o, σ.kp n = some o → w.heap[n]? = some o
  sep : ∀ i n, hp i ≠ none → σ i = some n → σ.kp n = none
  mem : ∀ n o v, σ.mem n o = some v → σ.kp n = none
theorem kp_lt {σ : Env} {hp : Heap} {w : World} (h : KpOk σ hp w) {n : Nat} (k : σ.kp n ≠ none) : n < w.heap.size := by
  cases hc : σ.kp n with
  | none => exact absurd hc k
  | some o => exact (Array.getElem?_eq_some_iff.1 (h.ok n o hc)).1
theorem kp_new {σ : Env} {hp : Heap} {w : World} (h : KpOk σ hp w) {n : Nat} (k : w.heap.size ≤ n) : σ.kp n = none := by
  cases hc : σ.kp n with
  | none => rfl
  | some o => have := kp_lt h (n := n) (by rw [hc]; simp); omega
theorem KpOk.keep {σ : Env} {hp hp' : Heap} {w w' : World} (h : KpOk σ hp w) (hsz : w.heap.size ≤ w'.heap.size) (hk : ∀ n, σ.kp n ≠ none → w'.heap[n]? = w.heap[n]?) (hl : ∀ i, hp' i ≠ none → hp i ≠ none) : KpOk σ hp' w' :=
  ⟨Nat.le_trans h.sz hsz, fun n o hn => (hk n (by rw [hn]; simp)).trans (h.ok n o hn), fun i n hi => h.sep i n (hl i hi), h.mem⟩

structure HRel (B : Nat) (σ : Env) (hp : Heap) (nx : Nat) (w : World) : Prop where
  ob : ∀ id o, hp id = some o → ObRel B σ w id o
  inj : ∀ i j n, hp i ≠ none → hp j ≠ none → σ i = some n → σ j = some n → i = j
  fresh : ∀ i, nx ≤ i → σ i = none ∧ σ.sv i = none ∧ hp i = none
  bound : ∀ i n, σ i = some n → n < w.heap.size
  mem : MemOk σ.mem w
  sep : ∀ i n, hp i ≠ none → σ i = some n → ∀ o, σ.mem n o = none
  low : ∀ b o v, σ.mem b o = some v → b < B → σ.low b o = some v
  kp : KpOk σ hp w

inductive DfL (σ : Env) : List DfA → List Deferred → Prop
  | nil : DfL σ [] []
  | cons {d : DfA} {D : Deferred} {ds : List DfA} {Ds : List Deferred} (h : RepDf σ d D) (t : DfL σ ds Ds) : DfL σ (d :: ds) (D :: Ds)
theorem DfL.mono {σ τ : Env} (e : Ext σ τ) {ds : List DfA} {Ds : List Deferred} (h : DfL σ ds Ds) : DfL τ ds Ds := by
  induction h with
  | nil => exact .nil
  | cons h _ ih => exact .cons (h.mono e) ih

structure Sat (rd : Bool) (w0 : World) (σ : Env) (s : St) (a : Go.Act) (w : World) : Prop where
  h : HRel w0.heap.size σ s.hp s.nx w
  tm : ∀ t, Rep σ (s.tm t) (a.tmps.getD t undef)
  n : a.tmps.size = s.n
  df : DfL σ s.df a.defers
  bl : Below w0.heap.size w0 w
  rd : s.rd = rd

theorem heap_lt {w : World} {n : Nat} {o : Obj} (h : w.heap[n]? = some o) : n < w.heap.size := (Array.getElem?_eq_some_iff.1 h).1
theorem cell_lt {w : World} {b o : Nat} {v : Value} (h : w.cell? ⟨b, o, none⟩ = some v) : b < w.heap.size := World.block_lt_of_cell? w ⟨b, o, none⟩ h

theorem ObRel.keep {B : Nat} {σ τ : Env} {w w' : World} {id : Nat} {o : Ob} (e : Ext σ τ) (hat : τ id = σ id) (hk : ∀ n, σ id = some n → w'.heap[n]? = w.heap[n]?) (h : ObRel B σ w id o) : ObRel B τ w' id o := by
  cases o with
  | blk b =>
    obtain ⟨n, vs, h1, h2, h3, h4⟩ := h
    exact ⟨n, vs, hat.trans h1, (hk n h1).trans h2, h3.mono e, h4⟩
  | arr A =>
    obtain ⟨v, us, h1, h2, h3, h4, h5⟩ := h
    refine ⟨v, us, e.3 _ _ h1, ⟨h2.1, ?_⟩, LR.mono (fun x vs => RepD.mono e.2 _ x vs) h3, h4, fun n => by rw [hat]; exact h5 n⟩
    rcases h2.2 with k | ⟨g, cap, cur, k1, k2, k3, k4⟩
    · exact .inl k
    · subst k1
      exact .inr ⟨g, cap, cur, rfl, k2, (hk g ((h5 g).1 rfl)).trans k3, k4⟩
  | lp r =>
    obtain ⟨n, L, h1, h2, h3, h4⟩ := h
    exact ⟨n, L, hat.trans h1, (hk n h1).trans h2, ⟨fun t => (h3.tm t).mono e, h3.n, h3.fn, h3.params, h3.assign, h3.body, h3.st, h3.pend⟩, h4⟩
  | dfr =>
    obtain ⟨n, h1, h2, h3⟩ := h
    exact ⟨n, hat.trans h1, (hk n h1).trans h2, h3⟩
  | it t pos =>
    obtain ⟨n, h1, h2, h3⟩ := h
    exact ⟨n, hat.trans h1, (hk n h1).trans h2, h3⟩
  | mp M =>
    obtain ⟨n, es, clock, h1, h2, h3, h4⟩ := h
    exact ⟨n, es, clock, hat.trans h1, (hk n h1).trans h2, h3.mono e.2 e.3, h4⟩

theorem MemOk.keep {m : Nat → Nat → Option Value} {w w' : World} (h : MemOk m w) (hk : ∀ n o v, m n o = some v → w'.heap[n]? = w.heap[n]?) : MemOk m w' := by
  intro b o v hb
  rw [World.cell?_of_block (a := ⟨b, o, none⟩) (hk b o v hb)]
  exact h b o v hb

theorem HRel.below {B : Nat} {σ : Env} {hp : Heap} {nx : Nat} {w w' : World} (h : HRel B σ hp nx w) (hb : Below w.heap.size w w') : HRel B σ hp nx w' := by
  refine ⟨fun id o hi => (h.ob id o hi).keep (Ext.refl σ) rfl fun n hn => hb.block n (h.bound id n hn), h.inj, h.fresh, fun i n hn => Nat.lt_of_lt_of_le (h.bound i n hn) hb.size, ?_, h.sep, h.low, h.kp.keep hb.size (fun n hn => hb.block n (kp_lt h.kp hn)) (fun _ h => h)⟩
  exact h.mem.keep fun n o v hv => hb.block n (cell_lt (h.mem n o v hv))

theorem beq_ne {i j : Nat} (h : i ≠ j) : Nat.beq i j = false := by
  cases hb : Nat.beq i j with
  | false => rfl
  | true => exact absurd (Nat.eq_of_beq_eq_true hb) h
theorem upd_same {β : Type} (f : Nat → β) (i : Nat) (x : β) : upd f i x i = x := by simp [upd]
theorem upd_other {β : Type} (f : Nat → β) {i j : Nat} (x : β) (h : j ≠ i) : upd f i x j = f j := by
  simp [upd, beq_ne h]

theorem Sat.eval {rd : Bool} {w0 : World} {σ : Env} {s : St} {a : Go.Act} {w : World} (h : Sat rd w0 σ s a w) (x : Operand) : Rep σ (s.eval x) (a.eval x) := by
  cases x with
  | tmp t => exact h.tm t
  | const v => exact rep_ofV σ v
  | global g => simp [St.eval, Go.Act.eval, Rep]
  | func f => simp [St.eval, Go.Act.eval, Rep, RepL]

theorem tm_put {σ : Env} {tm : Nat → AV} {tmps : Array Value} {x : AV} {v : Value} (h : ∀ t, Rep σ (tm t) (tmps.getD t undef)) (d : Nat) (hd : d < tmps.size) (hx : Rep σ x v) (t : Nat) : Rep σ (upd tm d x t) ((tmps.setIfInBounds d v).getD t undef) := by
  by_cases htd : t = d
  · subst htd
    rw [upd_same]
    simp [Array.getD, hd]
    exact hx
  · rw [upd_other _ _ htd]
    have := h t
    simp only [Array.getD_eq_getD_getElem?, Array.getElem?_setIfInBounds] at this ⊢
    simp only [if_neg (Ne.symm htd)]
    exact this

theorem Sat.put {rd : Bool} {w0 : World} {σ : Env} {s : St} {a : Go.Act} {w : World} (h : Sat rd w0 σ s a w) {o : Option Nat} (hd : o.getD 0 < s.n) {x : AV} {v : Value} (hx : Rep σ x v) : Sat rd w0 σ (s.put o x) (a.put o v) w := by
  cases o with
  | none => exact h
  | some d =>
    refine ⟨h.h, ?_, ?_, h.df, h.bl, h.rd⟩
    · exact tm_put h.tm d (by rw [h.n]; simpa using hd) hx
    · simp [Go.Act.put, St.put, h.n]

theorem Sat.mono {rd : Bool} {w0 : World} {σ τ : Env} {s : St} {a : Go.Act} {w w' : World} {hp : Heap} {nx : Nat} (h : Sat rd w0 σ s a w) (e : Ext σ τ) (hh : HRel w0.heap.size τ hp nx w') (hb : Below w0.heap.size w0 w') : Sat rd w0 τ { s with hp := hp, nx := nx } a w' :=
  ⟨hh, fun t => (h.tm t).mono e, h.n, h.df.mono e, hb, h.rd⟩

/-- the call's own objects lie in blocks of its own -/
theorem HRel.ge {B : Nat} {σ : Env} {hp : Heap} {nx : Nat} {w : World} (h : HRel B σ hp nx w) {id n : Nat} (hid : hp id ≠ none) (hn : σ id = some n) : B ≤ n := by
  cases ho : hp id with
  | none => exact absurd ho hid
  | some o =>
    have hk := h.ob id o ho
    cases o with
    | blk b => obtain ⟨m, vs, h1, _, _, h4⟩ := hk; rw [hn] at h1; cases h1; exact h4
    | arr A => obtain ⟨v, us, _, h2, _, _, h5⟩ := hk; exact (h2.lt n ((h5 n).2 hn)).1
    | lp r => obtain ⟨m, L, h1, _, _, h4⟩ := hk; rw [hn] at h1; cases h1; exact h4
    | dfr => obtain ⟨m, h1, _, h4⟩ := hk; rw [hn] at h1; cases h1; exact h4
    | it t pos => obtain ⟨m, h1, _, h4⟩ := hk; rw [hn] at h1; cases h1; exact h4
    | mp M => obtain ⟨m, es, clock, h1, _, _, h4⟩ := hk; rw [hn] at h1; cases h1; exact h4
/-- an object is laid or turned -/
theorem HRel.putOb {B : Nat} {σ τ : Env} {hp hp' : Heap} {nx nx' : Nat} {w w' : World} {id : Nat} {o : Ob} (h : HRel B σ hp nx w)
    (e : Ext σ τ) (hm : τ.mem = σ.mem) (hsub : ∀ j o, hp' j = some o → hp j = some o) (hid : id < nx') (hnx : nx ≤ nx')
    (hat : ∀ j, j ≠ id → τ j = σ j) (hsv : ∀ j, j ≠ id → τ.sv j = σ.sv j) (hsz : w.heap.size ≤ w'.heap.size)
    (keep : ∀ j n, j ≠ id → hp' j ≠ none → σ j = some n → w'.heap[n]? = w.heap[n]?)
    (kmem : ∀ n oo v, σ.mem n oo = some v → w'.heap[n]? = w.heap[n]?)
    (kkp : ∀ n, σ.kp n ≠ none → w'.heap[n]? = w.heap[n]?)
    (hob : ObRel B τ w' id o)
    (hnew : ∀ n, τ id = some n → n < w'.heap.size ∧ (∀ j, j ≠ id → hp' j ≠ none → σ j ≠ some n) ∧ (∀ oo, σ.mem n oo = none) ∧ σ.kp n = none) :
    HRel B τ (upd hp' id (some o)) nx' w' := by
  have hlive : ∀ j, hp' j ≠ none → hp j ≠ none := by
    intro j hj
    cases hc : hp' j with
    | none => exact absurd hc hj
    | some o => rw [hsub j o hc]; simp
  refine ⟨fun j p hj => ?_, fun i j n hi hj h1 h2 => ?_, fun i hi => ?_, fun i n hi => ?_, ?_, fun i n hi h1 oo => ?_, fun b oo v hv hlt => by rw [e.4]; rw [hm] at hv; exact h.low b oo v hv hlt, ⟨by rw [e.5.2]; exact Nat.le_trans h.kp.sz hsz, fun n o hn => by rw [e.5.1] at hn; exact (kkp n (by rw [hn]; simp)).trans (h.kp.ok n o hn), fun i n hi h1 => ?_, fun n o v hv => by rw [e.5.1]; rw [hm] at hv; exact h.kp.mem n o v hv⟩⟩
  · by_cases hjd : j = id
    · subst hjd
      rw [upd_same] at hj; cases hj
      exact hob
    · rw [upd_other _ _ hjd] at hj
      exact (h.ob j p (hsub j p hj)).keep e (hat j hjd) fun n hn => keep j n hjd (by rw [hj]; simp) hn
  · by_cases hid1 : i = id
    · by_cases hjd : j = id
      · rw [hid1, hjd]
      · subst hid1
        rw [upd_other _ _ hjd] at hj
        rw [hat j hjd] at h2
        exact absurd h2 ((hnew n h1).2.1 j hjd hj)
    · rw [upd_other _ _ hid1] at hi
      rw [hat i hid1] at h1
      by_cases hjd : j = id
      · subst hjd
        exact absurd h1 ((hnew n h2).2.1 i hid1 hi)
      · rw [upd_other _ _ hjd] at hj
        rw [hat j hjd] at h2
        exact h.inj i j n (hlive i hi) (hlive j hj) h1 h2
  · have hne : i ≠ id := by omega
    obtain ⟨f1, f2, f3⟩ := h.fresh i (by omega)
    refine ⟨(hat i hne).trans f1, (hsv i hne).trans f2, ?_⟩
    rw [upd_other _ _ hne]
    cases hc : hp' i with
    | none => rfl
    | some o => rw [hsub i o hc] at f3; cases f3
  · by_cases hid1 : i = id
    · subst hid1; exact (hnew n hi).1
    · rw [hat i hid1] at hi; exact Nat.lt_of_lt_of_le (h.bound i n hi) hsz
  · rw [hm]; exact h.mem.keep kmem
  · rw [hm]
    by_cases hid1 : i = id
    · subst hid1; exact (hnew n h1).2.2.1 oo
    · rw [upd_other _ _ hid1] at hi
      rw [hat i hid1] at h1
      exact h.sep i n (hlive i hi) h1 oo
  · rw [e.5.1]
    by_cases hid1 : i = id
    · subst hid1; exact (hnew n h1).2.2.2
    · rw [upd_other _ _ hid1] at hi
      rw [hat i hid1] at h1
      exact h.kp.sep i n (hlive i hi) h1

/-- objects are given up -/
theorem HRel.less {B : Nat} {σ : Env} {hp hp' : Heap} {nx : Nat} {w : World} (h : HRel B σ hp nx w) (hsub : ∀ j o, hp' j = some o → hp j = some o) : HRel B σ hp' nx w := by
  have hlive : ∀ j, hp' j ≠ none → hp j ≠ none := by
    intro j hj
    cases hc : hp' j with
    | none => exact absurd hc hj
    | some o => rw [hsub j o hc]; simp
  refine ⟨fun j o hj => h.ob j o (hsub j o hj), fun i j n hi hj => h.inj i j n (hlive i hi) (hlive j hj), fun i hi => ?_, h.bound, h.mem, fun i n hi => h.sep i n (hlive i hi), h.low, h.kp.keep (Nat.le_refl _) (fun _ _ => rfl) hlive⟩
  obtain ⟨f1, f2, f3⟩ := h.fresh i hi
  refine ⟨f1, f2, ?_⟩
  cases hc : hp' i with
  | none => rfl
  | some o => rw [hsub i o hc] at f3; cases f3
theorem less_none (hp : Heap) (id : Nat) : ∀ j o, upd hp id none j = some o → hp j = some o := by
  intro j o hj
  by_cases hjd : j = id
  · subst hjd; rw [upd_same] at hj; cases hj
  · rwa [upd_other _ _ hjd] at hj

/-- the environment with one more number -/
def Env.add (σ : Env) (id : Nat) (n : Option Nat) (v : Option Value) : Env := { σ with at_ := upd σ.at_ id n, sv := upd σ.sv id v }
theorem Env.add_ext {σ : Env} {id : Nat} {n : Option Nat} {v : Option Value} (h1 : σ id = none) (h2 : σ.sv id = none) : Ext σ (σ.add id n v) := by
  refine ⟨fun i b hi => ?_, fun _ _ _ h => h, fun i u hi => ?_, rfl, rfl, rfl⟩
  · show upd σ.at_ id n i = _
    rw [upd_other _ _ (fun e => by rw [e, h1] at hi; cases hi)]; exact hi
  · show upd σ.sv id v i = _
    rw [upd_other _ _ (fun e => by rw [e, h2] at hi; cases hi)]; exact hi

theorem mem_old {σ : Env} {w : World} (h : MemOk σ.mem w) {n oo : Nat} {v : Value} (hv : σ.mem n oo = some v) : n < w.heap.size := cell_lt (h n oo v hv)
theorem mem_new {σ : Env} {w : World} (h : MemOk σ.mem w) {n : Nat} (hn : w.heap.size ≤ n) (oo : Nat) : σ.mem n oo = none := by
  cases hc : σ.mem n oo with
  | none => rfl
  | some v => have := mem_old h hc; omega

/-- a new object in a new block -/
theorem HRel.new {B : Nat} {σ : Env} {hp : Heap} {nx : Nat} {w : World} (h : HRel B σ hp nx w) {obj : Obj} {o : Ob} {sv : Option Value}
    (hob : ∀ τ, Ext σ τ → τ.mem = σ.mem → τ nx = some w.heap.size → τ.sv nx = sv → ObRel B τ (w.alloc obj) nx o) :
    ∃ τ, Ext σ τ ∧ τ nx = some w.heap.size ∧ τ.sv nx = sv ∧ HRel B τ (upd hp nx (some o)) (nx + 1) (w.alloc obj) := by
  obtain ⟨f1, f2, f3⟩ := h.fresh nx (Nat.le_refl _)
  have he : Ext σ (σ.add nx (some w.heap.size) sv) := Env.add_ext f1 f2
  have hs : (w.alloc obj).heap.size = w.heap.size + 1 := by simp
  refine ⟨_, he, upd_same _ _ _, upd_same _ _ _, ?_⟩
  refine h.putOb he rfl (fun _ _ h => h) (by omega) (by omega) (fun j hj => upd_other _ _ hj) (fun j hj => upd_other _ _ hj) (by omega) ?_ ?_ ?_ (hob _ he rfl (upd_same _ _ _) (upd_same _ _ _)) ?_
  · intro j n _ _ hn; exact Below.heap_alloc _ _ _ (h.bound j n hn)
  · intro n oo v hv; exact Below.heap_alloc _ _ _ (mem_old h.mem hv)
  · intro n hn; exact Below.heap_alloc _ _ _ (kp_lt h.kp hn)
  · intro n hn
    have : n = w.heap.size := by
      have e : (σ.add nx (some w.heap.size) sv) nx = some w.heap.size := upd_same _ _ _
      rw [e] at hn; cases hn; rfl
    subst this
    refine ⟨by omega, fun j _ _ hj => ?_, mem_new h.mem (Nat.le_refl _), kp_new h.kp (Nat.le_refl _)⟩
    exact absurd (h.bound j _ hj) (Nat.lt_irrefl _)

theorem below_setRow {B : Nat} {w0 w : World} (h : Below B w0 w) {n : Nat} (hn : B ≤ n) (cs : Array Value) : Below B w0 (w.setRow n cs) :=
  h.trans ⟨rfl, rfl, rfl, by rw [setRow_size]; exact Nat.le_refl _, fun k hk => setRow_other w n k cs (by omega)⟩

/-- an object that lies in a row of cells is turned -/
theorem HRel.turn {B : Nat} {σ : Env} {hp : Heap} {nx : Nat} {w : World} (h : HRel B σ hp nx w) {id n : Nat} {o : Ob} (hid : hp id ≠ none) (hn : σ id = some n) (cs : Array Value) (hob : ObRel B σ (w.setRow n cs) id o) :
    HRel B σ (upd hp id (some o)) nx (w.setRow n cs) := by
  have hlt : id < nx := by
    rcases Nat.lt_or_ge id nx with x | x
    · exact x
    · exact absurd (h.fresh id x).2.2 hid
  refine h.putOb (Ext.refl σ) rfl (fun _ _ h => h) hlt (Nat.le_refl _) (fun _ _ => rfl) (fun _ _ => rfl) (by rw [setRow_size]; exact Nat.le_refl _) ?_ ?_ ?_ hob ?_
  · intro j k hj hpj hk
    exact setRow_other w n k cs (fun e => hj (h.inj j id n hpj hid (e ▸ hk) hn))
  · intro k oo v hv
    refine setRow_other w n k cs (fun e => ?_)
    subst e
    rw [h.sep id k hid hn oo] at hv; cases hv
  · intro k hk
    refine setRow_other w n k cs (fun e => ?_)
    subst e
    exact hk (h.kp.sep id k hid hn)
  · intro k hk
    rw [hn] at hk; cases hk
    refine ⟨by rw [setRow_size]; exact h.bound id n hn, fun j hj hpj hjn => hj (h.inj j id n hpj hid hjn hn), h.sep id n hid hn, h.kp.sep id n hid hn⟩

mutual
theorem RepD.one {m : Nat → Nat → Option Value} : ∀ (c : TC) (x : TCT c) (vs : List Value), RepD m c x vs → ∀ v ∈ vs, v.oneCell' = true
  | .b, _, _, h => by simp only [RepD] at h; subst h; simp [Value.oneCell']
  | .i _, _, _, h => by simp only [RepD] at h; rw [h.1]; simp [Value.oneCell']
  | .s, _, _, h => by simp only [RepD] at h; subst h; simp [Value.oneCell']
  | .sl c, xs, vs, h => by
    have h0 := h
    simp only [RepD] at h
    obtain ⟨v, rfl, _⟩ := h
    intro u hu
    simp at hu; subst hu
    exact slD_one h0
  | .st cs, x, vs, h => by simp only [RepD] at h; exact RepDs.one cs x vs h
theorem RepDs.one {m : Nat → Nat → Option Value} : ∀ (cs : List TC) (x : TCTs cs) (vs : List Value), RepDs m cs x vs → ∀ v ∈ vs, v.oneCell' = true
  | [], _, _, h => by simp only [RepDs] at h; subst h; simp
  | c :: cs, x, vs, h => by
    simp only [RepDs] at h
    obtain ⟨a, b, rfl, h1, h2⟩ := h
    intro v hv
    rcases List.mem_append.1 hv with hv | hv
    · exact RepD.one c x.1 a h1 v hv
    · exact RepDs.one cs x.2 b h2 v hv
end
theorem LR.all {T : Type} {R : T → List Value → Prop} {Q : Value → Prop} (h : ∀ x vs, R x vs → ∀ v ∈ vs, Q v) : ∀ {xs : List T} {vs : List Value}, LR R xs vs → ∀ v ∈ vs, Q v
  | [], _, k => by simp only [LR] at k; subst k; simp
  | x :: xs, vs, ⟨a, b, e, k1, k2⟩ => by
    subst e
    intro v hv
    rcases List.mem_append.1 hv with hv | hv
    · exact h x a k1 v hv
    · exact LR.all h k2 v hv

theorem setsA_take : ∀ (us : List Value) (cs : List Value) (off n : Nat), off + us.length ≤ n → (setsA cs off us).take n = setsA (cs.take n) off us
  | [], cs, off, n, _ => rfl
  | u :: us, cs, off, n, h => by
    simp only [setsA, setA_eq]
    rw [setsA_take us (cs.set off u) (off + 1) n (by simp at h; omega), List.take_set]
theorem setsA_in : ∀ (q t us : List Value) (col : Nat), col + us.length ≤ q.length → setsA (q ++ t) col us = setsA q col us ++ t
  | q, t, [], col, _ => rfl
  | q, t, u :: us, col, h => by
    simp only [setsA, setA_eq]
    rw [List.set_append_left _ _ (by simp at h; omega)]
    exact setsA_in (q.set col u) t us (col + 1) (by simp at h ⊢; omega)

/-! append -/
section
variable {P : Program}
theorem append_own {w : World} {B : Nat} {t tr e : TypeId} {i : TypeInfo} {z : Value} (ht : P.underlying t = some (.slice e)) (hi : P.info? e = some i) (hz : i.zero = some z) (hzs : z.cells.size = i.size) (hsz : 0 < i.size)
    {v : Value} {n : Nat} {xs : List Value} (hown : w.ownsRow B e i.size v n xs) {u : Value} {m : Nat} {news : List Value}
    (hu : (u = .slice none 0 0 ∧ m = 0) ∨ ∃ ad c, u = .slice (some ad) m c ∧ ∀ (j : Nat) (y : Value), news[j]? = some y → w.cell? (ad.add j) = some y) (hl : news.length = m * i.size) (h1 : ∀ y ∈ news, y.oneCell' = true)
    (hbytes : (n + m) * i.bytes ≤ 140737488355328) (h63 : n + m ≤ maxLen) (hB : B ≤ w.heap.size) :
    ∃ v' w', (Builtin.append_ #[t, t] tr #[v, u]).run P w = .ok v' w' ∧ w'.ownsRow B e i.size v' (n + m) (xs ++ news) ∧ w.grownBy w' v.ownBlock ∧ (v'.ownBlock = v.ownBlock ∨ v'.ownBlock = some w.heap.size) := by
  rcases hu with ⟨rfl, rfl⟩ | ⟨ad, c, rfl, hnews⟩
  · have hn : news = [] := List.eq_nil_of_length_eq_zero (by simpa using hl)
    subst hn
    refine ⟨v, w, ?_, by simpa using hown, ⟨rfl, rfl, rfl, Nat.le_refl _, fun _ _ _ => rfl⟩, .inl rfl⟩
    rcases hown.2 with ⟨rfl, rfl⟩ | ⟨g, cap, cur, rfl, _, _, hcap, _⟩
    · simp [Builtin.append_, run_underlying ht, sizeOf, typeInfo, hi, Builtin.lenOf, Builtin.firstCells]
    · simp [Builtin.append_, run_underlying ht, sizeOf, typeInfo, hi, Builtin.lenOf, Builtin.firstCells, hcap, storeCells]
  · obtain ⟨v', w', hr, h2, h3, h4⟩ := run_append_own (P := P) w B t tr e i z i.size i.bytes ht hi hz rfl rfl hzs hsz v n xs hown ad m c news hl hnews h1 h63 hbytes hB
    refine ⟨v', w', hr, h2, h3, ?_⟩
    have h63' : n + m ≤ 9223372036854775807 := by simp only [maxLen] at h63; omega
    rcases hown.2 with ⟨rfl, rfl⟩ | ⟨g, cap, cur, rfl, hbg, hg, hnc, hcm, hcs, htake⟩
    · by_cases hm : m = 0
      · subst hm
        have := h4.2 ⟨rfl, rfl⟩
        subst this
        exact .inl rfl
      · have hr2 := run_append_nil (P := P) w t tr e i z ht hi hz ad m c news hl hnews (by omega) (by omega) (by have hb := hbytes; simp only [Nat.zero_add] at hb; omega)
        rw [hr] at hr2
        cases hr2
        exact .inr rfl
    · by_cases hroom : n + m ≤ cap
      · have hfit : n * i.size + news.length ≤ cur.size := by rw [hl, hcs, ← Nat.add_mul]; exact Nat.mul_le_mul_right _ hroom
        have hr2 := run_append_room (P := P) w t tr e i ht hi g n cap cur hg ad m c news hl hnews h1 hroom hfit
        rw [hr] at hr2
        cases hr2
        exact .inl rfl
      · have holds : ∀ j u, xs[j]? = some u → w.cell? ((⟨g, 0, none⟩ : Addr).add j) = some u := hown.cells (g := g) rfl
        have hr2 := run_append_grow (P := P) w t tr e i z ht hi hz ⟨g, 0, none⟩ n cap xs hown.1 holds ad m c news hl hnews (by omega) (by omega) (growslice_fits (by omega) hbytes)
        rw [hr] at hr2
        cases hr2
        exact .inr rfl
end
end V
end Go.Proofs.Ytdblbofagfhlbaa
/- That the symbolic evaluator of the text Va is sound, third part: what an operation does; operations in order. -/
namespace Go.Proofs.Ytdblbofagfhlbaa
open Go.RowKit
namespace V

/-- the two ways to say how code is left -/
def ExR (τ : Env) : XE → Exit → Prop
  | .normal, .normal => True
  | .exit i, .exit j => i = j
  | .ret, .ret => True
  | .panic x, .panic ch => ∃ v, Rep τ x v ∧ ch = [{ v, recovered := false }]
  | _, _ => False
/-- the two ways to say what a call comes to -/
def OutR (τ : Env) : Out → Ending → Prop
  | .ret x, .returned v => Rep τ x v
  | .pan x, .panicked ch => ∃ v, Rep τ x v ∧ ch = [{ v, recovered := false }]
  | _, _ => False
def CRes {α : Type} (w0 : World) (σ : Env) (K : Out → Heap → Nat → Tree α) (R : α → Prop) (e : Ending) (w' : World) : Prop :=
  ∃ y τ hp' nx', Ext σ τ ∧ HRel w0.heap.size τ hp' nx' w' ∧ Below w0.heap.size w0 w' ∧ OutR τ y e ∧ (K y hp' nx').sat R
/-- what a handler of calls owes -/
def CTok (P : Program) {α : Type} (cT : CallT α) (R : α → Prop) : Prop :=
  ∀ (w0 : World) (σ : Env) (hp : Heap) (nx : Nat) (w : World) (c : Callee') (xs : List AV) (us : List Value) (K : Out → Heap → Nat → Tree α),
    HRel w0.heap.size σ hp nx w → Below w0.heap.size w0 w → RepL σ xs us → (cT c xs hp nx K).sat R →
    match c with
    | .fn f => (callFunc f us.toArray).run P w = .ok (.enter f us.toArray) w ∧ Calls' P f us.toArray w (CRes w0 σ K R)
    | .yld id => ∀ b, σ id = some b → ∃ l f tmps assign body, (Instr.yield b us.toArray).run P w = .ok (.round l f tmps assign body) w ∧ RoundX P l f tmps assign body w (CRes w0 σ K R)

section
variable {P : Program} {α : Type} {cT : CallT α} {R : α → Prop}

theorem castL_len {c d : TC} {xs : List (TCT c)} {ys : List (TCT d)} (h : castL c d xs = some ys) : ys.length = xs.length :=
  castL_rep h (Q := fun _ zs => zs.length = xs.length) rfl
theorem castL_size {c d : TC} {xs : List (TCT c)} {ys : List (TCT d)} (h : castL c d xs = some ys) : c.size = d.size :=
  castL_rep h (Q := fun e _ => c.size = e.size) rfl

/-- the source of an append -/
theorem src_rep {B : Nat} {σ : Env} {hp : Heap} {nx : Nat} {w : World} (hh : HRel B σ hp nx w) {c : TC} {st : Nat} {src : AV} {ys : List (TCT c)} {u : Value} (hc : c.size = st) (hs : srcRows hp c st src = some ys) (hu : Rep σ src u) :
    ∃ news, LR (RepD σ.mem c) ys news ∧ ((u = .slice none 0 0 ∧ ys.length = 0) ∨ ∃ ad cc, u = .slice (some ad) ys.length cc ∧ ∀ (j : Nat) (y : Value), news[j]? = some y → w.cell? (ad.add j) = some y) := by
  subst hc
  unfold srcRows at hs
  split at hs <;> try (simp at hs; done)
  · rename_i d xs
    simp only [Rep] at hu
    have hu' : RepD σ.mem (.sl c) ys [u] := castL_rep hs (Q := fun e zs => RepD σ.mem (.sl e) zs [u]) hu
    rcases slD_cases hu' with ⟨rfl, rfl⟩ | ⟨b, o, s, cap, us, rfl, h2, h3, ⟨hs4, h4⟩, h5⟩
    · exact ⟨[], by simp [LR], .inl ⟨rfl, rfl⟩⟩
    · refine ⟨us, h5, .inr ⟨⟨b, o, s⟩, cap, rfl, fun j y hj => ?_⟩⟩
      have : s = none := hs4.resolve_left fun e => by rw [e] at hj; simp at hj
      rw [this, Addr.add_lit]
      exact hh.mem _ _ _ (h4 j y hj)
  · rename_i id
    split at hs <;> try (simp at hs; done)
    rename_i A hA
    obtain ⟨v, us, h1, h2, h3, h4, h5⟩ := hh.ob id _ hA
    simp only [Rep] at hu
    have e : v = u := Option.some.inj (h1.symm.trans hu.1)
    subst e
    have hlen := castL_len hs
    have h3' : LR (RepD σ.mem c) ys us := castL_rep hs (Q := fun e zs => LR (RepD σ.mem e) zs us) h3
    refine ⟨us, h3', ?_⟩
    rcases h2.2 with ⟨rfl, k⟩ | ⟨g, cap, cur, rfl, k2, k3, k4⟩
    · exact .inl ⟨rfl, by omega⟩
    · refine .inr ⟨⟨g, 0, none⟩, cap, by rw [hlen], fun j y hj => ?_⟩
      exact h2.cells (g := g) rfl j y hj
  · rename_i id off st' len cap
    split at hs <;> try (simp at hs; done)
    rename_i b hb
    cases hbb : (Nat.beq c.size st' && Nat.ble (off + len * c.size) (lenA b.cs)) with
    | false => simp [hbb] at hs
    | true =>
      simp only [hbb, cond_true] at hs
      simp only [Bool.and_eq_true, Nat.beq_eq, Nat.ble_eq, lenA_eq, takeA_eq, dropA_eq] at hbb hs
      obtain ⟨n, vs, h1, h2, h3, h4⟩ := hh.ob id _ hb
      simp only [Rep] at hu
      obtain ⟨_, _, b', hb', rfl⟩ := hu
      rw [h1] at hb'; cases hb'
      have hcl : ((b.cs.drop off).take (len * c.size)).length = len * c.size := by simp; omega
      obtain ⟨k1, k2⟩ := decRows_rep len _ _ ys hs ((h3.drop off).take _) hcl
      refine ⟨_, k1, .inr ⟨⟨n, off, none⟩, cap, by rw [k2], fun j y hj => ?_⟩⟩
      rw [Addr.add_lit, cell_of_row w n (off + j) vs.toArray b.ty (0, 0) h2]
      rw [List.getElem?_take] at hj
      split at hj
      · rw [List.getElem?_drop] at hj; simpa using hj
      · simp at hj
  · simp only [Option.some.injEq] at hs
    subst hs
    simp only [Rep] at hu
    exact ⟨[], by simp [LR], .inl ⟨hu, rfl⟩⟩

def DidOk (hp : Heap) (σ : Env) (v : Value) : Option Nat → Prop
  | some d => hp d ≠ none ∧ ∀ n, v.ownBlock = some n ↔ σ d = some n
  | none => v.ownBlock = none
theorem app_sound {rd : Bool} {w0 : World} {σ : Env} {s : St} {a : Go.Act} {w : World} {o : Oper} {K : XE → St → Tree α} {r : Result Next} {ty : TypeId} {bytes st : Nat} {c : Option TC} {dst src : AV}
    (hS : Sat rd w0 σ s a w) (hd : o.dst.getD 0 < s.n) (he : AOk P σ w r (.app ty bytes st c dst src)) (h : (evApp o.dst s K ty bytes st c dst src).sat R) :
    ∃ v τ s' w', r = .ok (.value v) w' ∧ Ext σ τ ∧ Sat rd w0 τ s' (a.put o.dst v) w' ∧ (K .normal s').sat R := by
  obtain ⟨t, tr, v, u, i, z, hv, hu, ht, hi, hz, hst, hby, hzs, hst0, hby1, hr⟩ := he
  unfold evApp at h
  cases c with
  | none => simp [Tree.sat] at h
  | some c =>
    simp only at h
    cases hc : Nat.beq c.size st with
    | false => simp [hc, Tree.sat] at h
    | true =>
      have hc' : c.size = st := by simpa using hc
      simp only [hc, cond_true] at h
      split at h
      case h_2 => simp [Tree.sat] at h
      rename_i xs did ys hds hsr
      rw [appOk_eq] at h
      cases hle : decide (((xs.length + ys.length : Nat) : Int) * bytes ≤ 140737488355328) with
      | false => rw [hle, cond_false] at h; exact h.elim
      | true =>
        rw [hle, cond_true] at h
        have hle' : (xs.length + ys.length) * bytes ≤ 140737488355328 := by
          have := of_decide_eq_true hle
          omega
        have hh := hS.h
        obtain ⟨news, n1, n2⟩ := src_rep hh hc' hsr hu
        -- what is appended to
        have hdst : ∃ us, w.ownsRow w0.heap.size ty i.size v xs.length us ∧ LR (RepD σ.mem c) xs us ∧ DidOk s.hp σ v did := by
          unfold dstRows at hds
          split at hds <;> try (simp at hds; done)
          · rename_i d
            split at hds <;> try (simp at hds; done)
            rename_i A hA
            cases hty : Nat.beq A.ty ty with
            | false => simp [hty] at hds
            | true =>
              have hty' : A.ty = ty := by simpa using hty
              simp only [hty, cond_true, Option.map_eq_some_iff, Prod.mk.injEq] at hds
              obtain ⟨xs', hx', rfl, rfl⟩ := hds
              obtain ⟨v', us, h1, h2, h3, h4, h5⟩ := hh.ob d _ hA
              simp only [Rep] at hv
              have e : v' = v := Option.some.inj (h1.symm.trans hv.1)
              subst e
              have hsz := castL_size hx'
              refine ⟨us, ?_, castL_rep hx' (Q := fun e zs => LR (RepD σ.mem e) zs us) h3, by rw [hA]; simp, h5⟩
              rw [castL_len hx', hst, ← hc', ← hsz, ← hty']
              exact h2
          · simp only [Option.some.injEq, Prod.mk.injEq] at hds
            obtain ⟨rfl, rfl⟩ := hds
            simp only [Rep] at hv
            subst hv
            exact ⟨[], World.ownsRow_nil w _ _ _, by simp [LR], rfl⟩
        obtain ⟨us, d1, d2, d3⟩ := hdst
        have hnl : news.length = ys.length * i.size := by rw [hst, ← hc']; exact LR.len (fun x vs => RepD.len c x vs) n1
        have h63 : xs.length + ys.length ≤ maxLen := by
          have := Nat.le_mul_of_pos_right (xs.length + ys.length) (show 0 < bytes by omega)
          simp only [maxLen]; omega
        obtain ⟨v', w', a1, a2, a3, a4⟩ := append_own (P := P) (tr := tr) ht hi hz (by omega) (by omega) d1 (u := u) (m := ys.length) (news := news)
          (by rcases n2 with ⟨k1, k2⟩ | ⟨ad, cc, k1, k2⟩
              · exact .inl ⟨k1, k2⟩
              · exact .inr ⟨ad, cc, k1, k2⟩) hnl (LR.all (fun x vs => RepD.one c x vs) n1) (by rw [hby]; exact hle') h63 hS.bl.size
        obtain ⟨f1, f2, f3⟩ := hh.fresh s.nx (Nat.le_refl _)
        have hext : Ext σ (σ.add s.nx v'.ownBlock (some v')) := Env.add_ext f1 f2
        have hsl : ∃ aa n cap, v' = .slice aa n cap := by
          rcases a2.2 with ⟨k, _⟩ | ⟨g, cap, cur, k, _⟩
          · exact ⟨none, 0, 0, k⟩
          · exact ⟨_, _, _, k⟩
        have hsub : ∀ j o, (hpLess s.hp did) j = some o → s.hp j = some o := by
          intro j o hj
          cases did with
          | none => exact hj
          | some d => exact less_none s.hp d j o hj
        have hlive : ∀ j, (hpLess s.hp did) j ≠ none → s.hp j ≠ none := by
          intro j hj
          cases hc : (hpLess s.hp did) j with
          | none => exact absurd hc hj
          | some o => rw [hsub j o hc]; simp
        have hoth : ∀ j n, (hpLess s.hp did) j ≠ none → σ j = some n → some n ≠ v.ownBlock := by
          intro j n hj hn e
          cases did with
          | none => rw [show v.ownBlock = none from d3] at e; cases e
          | some d =>
            replace d3 : s.hp d ≠ none ∧ ∀ n, v.ownBlock = some n ↔ σ d = some n := d3
            replace hj : upd s.hp d none j ≠ none := hj
            have hjd : j ≠ d := fun e' => by subst e'; rw [upd_same] at hj; exact hj rfl
            rw [upd_other _ _ hjd] at hj
            exact hjd (hh.inj j d n hj d3.1 hn ((d3.2 n).1 e.symm))
        have hmo : ∀ n oo vv, σ.mem n oo = some vv → some n ≠ v.ownBlock := by
          intro n oo vv hv' e
          cases did with
          | none => rw [show v.ownBlock = none from d3] at e; cases e
          | some d =>
            replace d3 : s.hp d ≠ none ∧ ∀ n, v.ownBlock = some n ↔ σ d = some n := d3
            rw [hh.sep d n d3.1 ((d3.2 n).1 e.symm) oo] at hv'; cases hv'
        have hko : ∀ n, σ.kp n ≠ none → some n ≠ v.ownBlock := by
          intro n hn e
          cases did with
          | none => rw [show v.ownBlock = none from d3] at e; cases e
          | some d =>
            replace d3 : s.hp d ≠ none ∧ ∀ n, v.ownBlock = some n ↔ σ d = some n := d3
            exact hn (hh.kp.sep d n d3.1 ((d3.2 n).1 e.symm))
        have hH : HRel w0.heap.size (σ.add s.nx v'.ownBlock (some v')) (upd (hpLess s.hp did) s.nx (some (.arr ⟨ty, c, xs ++ ys⟩))) (s.nx + 1) w' := by
          refine hh.putOb hext rfl hsub (by omega) (by omega) (fun j hj => upd_other _ _ hj) (fun j hj => upd_other _ _ hj) a3.size ?_ ?_ ?_ ?_ ?_
          · intro j n hj hpj hn
            exact a3.block n (hh.bound j n hn) (hoth j n hpj hn)
          · intro n oo vv hv'
            exact a3.block n (mem_old hh.mem hv') (hmo n oo vv hv')
          · intro n hn
            exact a3.block n (kp_lt hh.kp hn) (hko n hn)
          · refine ⟨v', us ++ news, upd_same _ _ _, ?_, LR.mono (fun x vs => RepD.mono hext.2 c x vs) (d2.append n1), by rw [hc']; exact hst0, fun n => ?_⟩
            · show World.ownsRow w' _ ty c.size v' (xs ++ ys).length (us ++ news)
              rw [hc', ← hst, List.length_append]
              exact a2
            · have : (σ.add s.nx v'.ownBlock (some v')) s.nx = v'.ownBlock := upd_same _ _ _
              rw [this]
          · intro n hn
            have hn' : v'.ownBlock = some n := by
              have : (σ.add s.nx v'.ownBlock (some v')) s.nx = v'.ownBlock := upd_same _ _ _
              rw [this] at hn; exact hn
            refine ⟨(a2.lt n hn').2, fun j hj hpj hjn => ?_, fun oo => ?_, ?_⟩
            · rcases a4 with k | k
              · exact hoth j n hpj hjn (by rw [← k]; exact hn'.symm)
              · rw [hn'] at k; cases k
                exact absurd (hh.bound j _ hjn) (Nat.lt_irrefl _)
            · cases hcm : σ.mem n oo with
              | none => rfl
              | some vv =>
                rcases a4 with k | k
                · exact absurd (by rw [← k]; exact hn'.symm) (hmo n oo vv hcm)
                · rw [hn'] at k; cases k
                  exact absurd (mem_old hh.mem hcm) (Nat.lt_irrefl _)
            · cases hcm : σ.kp n with
              | none => rfl
              | some vv =>
                rcases a4 with k | k
                · exact absurd (by rw [← k]; exact hn'.symm) (hko n (by rw [hcm]; simp))
                · rw [hn'] at k; cases k
                  exact absurd (kp_lt hh.kp (by rw [hcm]; simp)) (Nat.lt_irrefl _)
        have hB : Below w0.heap.size w0 w' := by
          refine hS.bl.trans ⟨a3.os, a3.tape, a3.output, a3.size, fun k hk => a3.block k (Nat.lt_of_lt_of_le hk hS.bl.size) ?_⟩
          intro e
          rcases d1.2 with ⟨rfl, _⟩ | ⟨g, cap, cur, rfl, hbg, _⟩
          · cases e
          · simp [Value.ownBlock] at e; omega
        have hS' := hS.mono hext hH hB
        refine ⟨v', _, _, w', ?_, hext, hS'.put (o := o.dst) hd (x := .own s.nx) (v := v') ?_, h⟩
        · rw [hr]
          simp only [Sem.run_bind, a1, Result.andThen_ok, Sem.run_pure]
        · simp only [Rep]
          exact ⟨upd_same _ _ _, hsl⟩

theorem HRel.turnObj {B : Nat} {σ : Env} {hp : Heap} {nx : Nat} {w : World} (h : HRel B σ hp nx w) {id n : Nat} {o : Ob} (hid : hp id ≠ none) (hn : σ id = some n) (obj : Obj) (hob : ObRel B σ (w.putObj n obj) id o) : HRel B σ (upd hp id (some o)) nx (w.putObj n obj) := by
  have hlt : id < nx := by
    rcases Nat.lt_or_ge id nx with x | x
    · exact x
    · exact absurd (h.fresh id x).2.2 hid
  refine h.putOb (Ext.refl σ) rfl (fun _ _ h => h) hlt (Nat.le_refl _) (fun _ _ => rfl) (fun _ _ => rfl) (by simp) ?_ ?_ ?_ hob ?_
  · intro j k hj hpj hk
    exact World.putObj_heap_other fun e => hj (h.inj j id n hpj hid (e ▸ hk) hn)
  · intro k oo v hv
    refine World.putObj_heap_other fun e => ?_
    subst e
    rw [h.sep id k hid hn oo] at hv; cases hv
  · intro k hk
    refine World.putObj_heap_other fun e => ?_
    subst e
    exact hk (h.kp.sep id k hid hn)
  · intro k hk
    rw [hn] at hk; cases hk
    refine ⟨by simpa using h.bound id n hn, fun j hj hpj hjn => hj (h.inj j id n hpj hid hjn hn), h.sep id n hid hn, h.kp.sep id n hid hn⟩
theorem below_putObj {B : Nat} {w0 w : World} (h : Below B w0 w) {n : Nat} (hn : B ≤ n) (o : Obj) : Below B w0 (w.putObj n o) :=
  h.trans ⟨rfl, rfl, rfl, by simp, fun k hk => World.putObj_heap_other (by omega)⟩
/-- a number that stands for a value alone -/
theorem HRel.addSv {B : Nat} {σ : Env} {hp : Heap} {nx : Nat} {w : World} (h : HRel B σ hp nx w) (v : Option Value) : Ext σ (σ.add nx none v) ∧ HRel B (σ.add nx none v) hp (nx + 1) w := by
  obtain ⟨f1, f2, f3⟩ := h.fresh nx (Nat.le_refl _)
  have he : Ext σ (σ.add nx none v) := Env.add_ext f1 f2
  have hat : ∀ j, (σ.add nx none v) j = σ j := fun j => by
    by_cases hj : j = nx
    · subst hj; rw [f1]; exact upd_same _ _ _
    · exact upd_other _ _ hj
  refine ⟨he, ⟨fun id o hi => (h.ob id o hi).keep he (hat id) (fun _ _ => rfl), fun i j n hi hj h1 h2 => h.inj i j n hi hj ((hat i).symm.trans h1) ((hat j).symm.trans h2), fun i hi => ?_, fun i n hn => h.bound i n ((hat i).symm.trans hn), h.mem, fun i n hi hn => h.sep i n hi ((hat i).symm.trans hn), h.low, ⟨h.kp.sz, h.kp.ok, fun i n hi hn => h.kp.sep i n hi ((hat i).symm.trans hn), h.kp.mem⟩⟩⟩
  obtain ⟨g1, g2, g3⟩ := h.fresh i (by omega)
  exact ⟨(hat i).trans g1, (upd_other _ _ (by omega)).trans g2, g3⟩
theorem heap_putObj {w : World} {b : Nat} {o : Obj} (o' : Obj) (h : w.heap[b]? = some o) : (w.putObj b o').heap[b]? = some o' := by
  show (w.heap.setIfInBounds b o')[b]? = _
  rw [Array.getElem?_setIfInBounds]
  simp [heap_lt h]
theorem trunc_sound {rd : Bool} {w0 : World} {σ : Env} {s : St} {a : Go.Act} {w : World} {o : Oper} {K : XE → St → Tree α} {r : Result Next} {id st : Nat} {n : Int}
    (hS : Sat rd w0 σ s a w) (hd : o.dst.getD 0 < s.n) (he : AOk P σ w r (.trunc id st n)) (h : (evEff cT o.dst s K (.trunc id st n)).sat R) :
    ∃ v τ s', r = .ok (.value v) w ∧ Ext σ τ ∧ Sat rd w0 τ s' (a.put o.dst v) w ∧ (K .normal s').sat R := by
  simp only [AOk] at he
  obtain ⟨v, hsv, he1, he2⟩ := he
  simp only [evEff] at h
  split at h <;> try (simp [Tree.sat] at h; done)
  rename_i A hA
  cases hb : (Nat.beq A.c.size st && decide (0 ≤ n ∧ n ≤ A.xs.length)) with
  | false => rw [hb, cond_false] at h; simp [Tree.sat] at h
  | true =>
    rw [hb, cond_true] at h
    rw [Bool.and_eq_true, decide_eq_true_eq] at hb
    obtain ⟨_, hn0, hn1⟩ := hb
    have hh := hS.h
    obtain ⟨v', us, h1, h2, h3, h4, h5⟩ := hh.ob id _ hA
    rw [hsv] at h1; cases h1
    obtain ⟨f1, f2, f3⟩ := hh.fresh s.nx (Nat.le_refl _)
    -- the slice that is cut
    have hv' : ∃ v', r = .ok (.value v') w ∧ (∃ aa n cap, v' = .slice aa n cap) ∧ v'.ownBlock = v.ownBlock ∧ w.ownsRow w0.heap.size A.ty A.c.size v' n.toNat (us.take (n.toNat * A.c.size)) := by
      have hlen := LR.len (fun x vs => RepD.len A.c x vs) h3
      have hle : n.toNat * A.c.size ≤ A.xs.length * A.c.size := Nat.mul_le_mul_right _ (by omega)
      rcases h2.2 with ⟨rfl, k⟩ | ⟨g, cap, cur, rfl, k2, k3, k4, k5, k6, k7⟩
      · have : n = 0 := by omega
        subst this
        exact ⟨_, he1 rfl rfl, ⟨_, _, _, rfl⟩, rfl, by simp, .inl ⟨rfl, rfl⟩⟩
      · refine ⟨_, he2 g _ cap rfl hn0 (by omega), ⟨_, _, _, rfl⟩, rfl, by simp; omega, .inr ⟨g, cap, cur, rfl, k2, k3, by omega, k5, k6, ?_⟩⟩
        rw [← k7, List.take_take, Nat.min_eq_left hle]
    obtain ⟨v', hr, hsl, hob, how⟩ := hv'
    have hext : Ext σ (σ.add s.nx v'.ownBlock (some v')) := Env.add_ext f1 f2
    have hsub : ∀ j o, upd s.hp id none j = some o → s.hp j = some o := less_none s.hp id
    have hH : HRel w0.heap.size (σ.add s.nx v'.ownBlock (some v')) (upd (upd s.hp id none) s.nx (some (.arr ⟨A.ty, A.c, A.xs.take n.toNat⟩))) (s.nx + 1) w := by
      refine hh.putOb hext rfl hsub (by omega) (by omega) (fun j hj => upd_other _ _ hj) (fun j hj => upd_other _ _ hj) (Nat.le_refl _) (fun _ _ _ _ _ => rfl) (fun _ _ _ _ => rfl) (fun _ _ => rfl) ?_ ?_
      · refine ⟨v', _, upd_same _ _ _, ?_, LR.mono (fun x vs => RepD.mono hext.2 A.c x vs) (LR.take (fun x vs => RepD.len A.c x vs) n.toNat h3 (by omega)), h4, fun m => ?_⟩
        · show World.ownsRow w _ A.ty A.c.size v' (A.xs.take n.toNat).length _
          rw [List.length_take, Nat.min_eq_left (by omega)]
          exact how
        · have : (σ.add s.nx v'.ownBlock (some v')) s.nx = v'.ownBlock := upd_same _ _ _
          rw [this]
      · intro m hm
        have hm' : v'.ownBlock = some m := by
          have : (σ.add s.nx v'.ownBlock (some v')) s.nx = v'.ownBlock := upd_same _ _ _
          rw [this] at hm; exact hm
        have hid : σ id = some m := (h5 m).1 (by rw [← hob]; exact hm')
        refine ⟨hh.bound id m hid, fun j hj hpj hjm => ?_, fun oo => hh.sep id m (by rw [hA]; simp) hid oo, hh.kp.sep id m (by rw [hA]; simp) hid⟩
        have hjd : j ≠ id := fun e' => by subst e'; rw [upd_same] at hpj; exact hpj rfl
        rw [upd_other _ _ hjd] at hpj
        exact hjd (hh.inj j id m hpj (by rw [hA]; simp) hjm hid)
    have hS' := hS.mono hext hH hS.bl
    refine ⟨v', _, _, hr, hext, hS'.put (o := o.dst) hd (x := .own s.nx) (v := v') ?_, h⟩
    simp only [Rep]
    exact ⟨upd_same _ _ _, hsl⟩

theorem evEff_sound (hc : CTok P cT R) {rd : Bool} {w0 : World} {σ : Env} {s : St} {a : Go.Act} {w : World} {o : Oper} {K : XE → St → Tree α} {next : Go.Act → World → Prop} {Q : Exit → Go.Act → World → Prop} {r : Result Next}
    (hS : Sat rd w0 σ s a w) (hd : o.dst.getD 0 < s.n) (hP : ∀ τ s' x ch w', Ext σ τ → Sat rd w0 τ s' a w' → ExR τ (.panic x) (.panic ch) → (K (.panic x) s').sat R → Q (.panic ch) a w') : ∀ (e : Eff), AOk P σ w r e → (evEff cT o.dst s K e).sat R →
    (∀ τ s' a' w', Ext σ τ → Sat rd w0 τ s' a' w' → (K .normal s').sat R → next a' w') → Oper.uponX P rd o a next Q r
  | .val x, he, h, hK => by
    simp only [AOk] at he
    obtain ⟨v, rfl, hv⟩ := he
    exact hK σ _ _ _ (Ext.refl _) (hS.put hd hv) h
  | .load id row st col n agg, he, h, hK => by
    simp only [AOk] at he
    obtain ⟨hn, he⟩ := he
    simp only [evEff] at h
    split at h <;> try (simp [Tree.sat] at h; done)
    · rename_i b hb
      obtain ⟨m, vs, h1, h2, h3, h4⟩ := hS.h.ob id _ hb
      cases hl : Nat.ble (row * st + col + n) (lenA b.cs) with
      | false => simp [hl, Tree.sat] at h
      | true =>
        simp only [hl, cond_true, takeA_eq, dropA_eq, nth_eq] at h
        simp only [Nat.ble_eq, lenA_eq] at hl
        rw [he m b.ty vs h1 h2 (by rw [← h3.length]; exact hl)]
        cases agg with
        | true =>
          simp only [cond_true] at h
          refine hK σ _ _ _ (Ext.refl _) (hS.put hd ?_) h
          simp only [if_true, Rep]
          exact ⟨_, (h3.drop _).take _, rfl⟩
        | false =>
          simp only [cond_false] at h
          have hn1 := hn rfl
          subst hn1
          have hlt : row * st + col < b.cs.length := by omega
          rw [List.getElem?_eq_getElem hlt] at h
          obtain ⟨v, hv, hr⟩ := h3.get (List.getElem?_eq_getElem hlt)
          refine hK σ _ _ _ (Ext.refl _) (hS.put hd ?_) h
          simp only [Bool.false_eq_true, if_false, List.getD, hv, Option.getD_some]
          exact hr
    · rename_i A hA
      obtain ⟨v, us, h1, h2, h3, h4, h5⟩ := hS.h.ob id _ hA
      cases hl : (Nat.beq A.c.size st && Nat.ble (col + n) st) with
      | false => simp [hl, Tree.sat] at h
      | true =>
        simp only [hl, cond_true] at h
        simp only [Bool.and_eq_true, Nat.beq_eq, Nat.ble_eq] at hl
        obtain ⟨hl1, hl2⟩ := hl
        subst hl1
        cases hr : decide (row < A.xs.length) with
        | false => simp [hr, Tree.sat] at h
        | true =>
          have hr' := of_decide_eq_true hr
          simp only [hr, cond_true, takeA_eq, dropA_eq, nth_eq] at h
          rcases h2.2 with ⟨_, k⟩ | ⟨g, cap, cur, rfl, k2, k3, k4, k5, k6, k7⟩
          · omega
          have hg := (h5 g).1 rfl
          have hul := LR.len (fun x vs => RepD.len A.c x vs) h3
          have hrow : (row + 1) * A.c.size ≤ A.xs.length * A.c.size := Nat.mul_le_mul_right _ hr'
          rw [Nat.add_mul, Nat.one_mul] at hrow
          have hcl : cur.toList.length = cap * A.c.size := by simpa using k6
          have hxc : A.xs.length * A.c.size ≤ cap * A.c.size := Nat.mul_le_mul_right _ k4
          have hrun := he g A.ty cur.toList hg (by simpa using k3) (by omega)
          have hel := LR.get (fun x vs => RepD.len A.c x vs) row (dflt A.c) h3 hr'
          have hcells : (us.drop (row * A.c.size)).take A.c.size = (cur.toList.drop (row * A.c.size)).take A.c.size := by
            rw [← k7, List.drop_take, List.take_take]
            congr 1; omega
          rw [hcells] at hel
          have hrep := enc_rep (σ := σ) _ _ _ hel
          have hdrop : ((cur.toList.drop (row * A.c.size)).take A.c.size).drop col = (cur.toList.drop (row * A.c.size + col)).take (A.c.size - col) := by
            rw [List.drop_take, List.drop_drop]
          rw [hrun]
          cases agg with
          | true =>
            simp only [cond_true] at h
            refine hK σ _ _ _ (Ext.refl _) (hS.put hd ?_) h
            simp only [if_true, Rep]
            refine ⟨_, (hrep.drop col).take n, ?_⟩
            rw [hdrop, List.take_take, Nat.min_eq_left (by omega)]
          | false =>
            simp only [cond_false] at h
            have hn1 := hn rfl
            subst hn1
            have hlt : col < (enc A.c (getA A.xs row (dflt A.c))).length := by
              rw [hrep.length]; simp only [List.length_take, List.length_drop]; omega
            rw [List.getElem?_eq_getElem hlt] at h
            obtain ⟨v, hv, hr2⟩ := hrep.get (List.getElem?_eq_getElem hlt)
            refine hK σ _ _ _ (Ext.refl _) (hS.put hd ?_) h
            have hv' : cur.toList[row * A.c.size + col]? = some v := by
              rw [List.getElem?_take] at hv
              split at hv
              · rwa [List.getElem?_drop] at hv
              · cases hv
            simp only [Bool.false_eq_true, if_false, List.getD, hv', Option.getD_some]
            exact hr2
  | .store id row st col xs, he, h, hK => by
    simp only [AOk] at he
    obtain ⟨us, hu, he⟩ := he
    simp only [evEff] at h
    split at h <;> try (simp [Tree.sat] at h; done)
    · rename_i b hb
      obtain ⟨m, vs, h1, h2, h3, h4⟩ := hS.h.ob id _ hb
      cases hl : Nat.ble (row * st + col + lenA xs) (lenA b.cs) with
      | false => simp [hl, Tree.sat] at h
      | true =>
        simp only [hl, cond_true] at h
        simp only [Nat.ble_eq, lenA_eq] at hl
        rw [he m b.ty vs h1 h2 (by rw [← h3.length, ← hu.length]; exact hl)]
        have hob : ObRel w0.heap.size σ (w.setRow m (setsA vs (row * st + col) us).toArray) id (.blk ⟨b.ty, setsA b.cs (row * st + col) xs⟩) :=
          ⟨m, _, h1, setRow_heap w m _ _ _ _ h2, setsA_rep _ _ (row * st + col) _ _ h3 hu, h4⟩
        have hh := hS.h.turn (by rw [hb]; simp) h1 _ hob
        have hS' : Sat rd w0 σ { s with hp := upd s.hp id (some (.blk ⟨b.ty, setsA b.cs (row * st + col) xs⟩)) } a (w.setRow m (setsA vs (row * st + col) us).toArray) :=
          hS.mono (Ext.refl _) hh (below_setRow hS.bl h4 _)
        exact hK σ _ _ _ (Ext.refl _) (hS'.put hd (by simp only [Rep])) h
    · rename_i A hA
      obtain ⟨v, vs, h1, h2, h3, h4, h5⟩ := hS.h.ob id _ hA
      cases hl : (Nat.beq A.c.size st && Nat.ble (col + lenA xs) st) with
      | false => simp [hl, Tree.sat] at h
      | true =>
        simp only [hl, cond_true] at h
        simp only [Bool.and_eq_true, Nat.beq_eq, Nat.ble_eq, lenA_eq] at hl
        obtain ⟨hl1, hl2⟩ := hl
        subst hl1
        cases hr : decide (row < A.xs.length) with
        | false => simp [hr, Tree.sat] at h
        | true =>
          have hr' := of_decide_eq_true hr
          simp only [hr, cond_true] at h
          split at h
          case h_2 => simp [Tree.sat] at h
          rename_i x hx
          rcases h2.2 with ⟨_, k⟩ | ⟨g, cap, cur, rfl, k2, k3, k4, k5, k6, k7⟩
          · omega
          have hg := (h5 g).1 rfl
          have hul := LR.len (fun x vs => RepD.len A.c x vs) h3
          have hrow : (row + 1) * A.c.size ≤ A.xs.length * A.c.size := Nat.mul_le_mul_right _ hr'
          rw [Nat.add_mul, Nat.one_mul] at hrow
          have hcl : cur.toList.length = cap * A.c.size := by simpa using k6
          have hxc : A.xs.length * A.c.size ≤ cap * A.c.size := Nat.mul_le_mul_right _ k4
          have hxl := hu.length
          have hrun := he g A.ty cur.toList hg (by simpa using k3) (by omega)
          have hel := LR.get (fun x vs => RepD.len A.c x vs) row (dflt A.c) h3 hr'
          have hrep := enc_rep (σ := σ) _ _ _ hel
          have hnew := dec_all hx (setsA_rep xs us col _ _ hrep hu)
          have hset := LR.set (fun x vs => RepD.len A.c x vs) row x h3 hnew hr'
          -- the cells behind the store
          have hcells : (setsA cur.toList (row * A.c.size + col) us).take (A.xs.length * A.c.size) = setsA vs (row * A.c.size) (setsA ((vs.drop (row * A.c.size)).take A.c.size) col us) := by
            rw [setsA_take _ _ _ _ (by omega), k7]
            have hsplit : vs = vs.take (row * A.c.size) ++ ((vs.drop (row * A.c.size)).take A.c.size ++ vs.drop (row * A.c.size + A.c.size)) := by
              rw [← List.drop_drop, List.take_append_drop, List.take_append_drop]
            have hp1 : (vs.take (row * A.c.size)).length = row * A.c.size := by simp; omega
            have hp2 : ((vs.drop (row * A.c.size)).take A.c.size).length = A.c.size := by simp; omega
            generalize hA1 : vs.take (row * A.c.size) = p at hsplit hp1
            generalize hA2 : (vs.drop (row * A.c.size)).take A.c.size = q at hsplit hp2 ⊢
            generalize vs.drop (row * A.c.size + A.c.size) = t at hsplit
            rw [hsplit, show row * A.c.size + col = p.length + col by omega, setsA_past, show row * A.c.size = p.length + 0 by omega, setsA_past]
            congr 1
            rw [setsA_front _ q t (by rw [setsA_length]), setsA_in q t us col (by omega)]
          rw [hrun]
          have hob : ObRel w0.heap.size σ (w.setRow g (setsA cur.toList (row * A.c.size + col) us).toArray) id (.arr ⟨A.ty, A.c, setA A.xs row x⟩) := by
            refine ⟨_, _, h1, ?_, by rw [setA_eq]; exact hset, h4, h5⟩
            refine ⟨?_, .inr ⟨g, cap, _, ?_, k2, setRow_heap w g _ _ _ _ k3, by simpa [setA_eq] using k4, k5, by simp [setsA_length]; exact hcl, ?_⟩⟩
            · simp only [setA_eq, List.length_set, setsA_length]; exact h2.1
            · simp [setA_eq]
            · simp only [setA_eq, List.length_set]
              exact hcells
          have hh := hS.h.turn (by rw [hA]; simp) hg _ hob
          have hS' := hS.mono (Ext.refl _) hh (below_setRow hS.bl k2 _)
          exact hK σ _ _ _ (Ext.refl _) (hS'.put hd (by simp only [Rep])) h
  | .alloc b mk, he, h, hK => by
    simp only [AOk] at he
    obtain ⟨us, v, hu, rfl, hv⟩ := he
    simp only [evEff] at h
    obtain ⟨τ, e, hτ, _, hh⟩ := hS.h.new (obj := .cells us.toArray b.ty) (o := .blk b) (sv := none) (fun τ e _ h1 _ =>
      ⟨w.heap.size, us, h1, by show (w.heap.push _)[w.heap.size]? = _; simp, hu.mono e, hS.bl.size⟩)
    have hS' : Sat rd w0 τ { s with hp := upd s.hp s.nx (some (.blk b)), nx := s.nx + 1 } a _ := hS.mono e hh (hS.bl.alloc hS.bl.size _)
    exact hK τ _ _ _ e (hS'.put hd (hv τ s.nx e hτ)) h
  | .list ty c xs, he, h, hK => by
    simp only [AOk] at he
    obtain ⟨us, cap, rfl, h1, h2, h3, h4, h5⟩ := he
    simp only [evEff] at h
    obtain ⟨τ, e, hτ, hsv, hh⟩ := hS.h.new (obj := .cells us.toArray ty) (o := .arr ⟨ty, c, xs⟩) (sv := some (.slice (some ⟨w.heap.size, 0, none⟩) xs.length cap)) (fun τ e _ k1 k2 =>
      ⟨_, us.take (xs.length * c.size), k2, ⟨by simp only [List.length_take, h1]; exact Nat.min_eq_left (Nat.mul_le_mul_right _ h2), .inr ⟨w.heap.size, cap, us.toArray, rfl, hS.bl.size, by show (w.heap.push _)[w.heap.size]? = _; simp, h2, h3, by simpa using h1, by simp⟩⟩,
        LR.mono (fun x vs => RepD.mono e.2 c x vs) h5, h4, fun n => by simp only [Value.ownBlock]; rw [k1]⟩)
    have hS' := hS.mono e hh (hS.bl.alloc hS.bl.size _)
    exact hK τ _ _ _ e (hS'.put hd (x := .own s.nx) (by simp only [Rep]; exact ⟨hsv, _, _, _, rfl⟩)) h
  | .app ty bytes st c dst src, he, h, hK => by
    simp only [evEff] at h
    obtain ⟨v, τ, s', w', rfl, h1, h2, h3⟩ := app_sound hS hd he h
    exact hK τ s' _ _ h1 h2 h3
  | .idx id st n, he, h, hK => by
    simp only [AOk] at he
    simp only [evEff] at h
    split at h <;> try (simp [Tree.sat] at h; done)
    rename_i A hA
    obtain ⟨v, us, h1, h2, h3, h4, h5⟩ := hS.h.ob id _ hA
    cases hl : Nat.beq A.c.size st with
    | false => simp [hl, Tree.sat] at h
    | true =>
      have hl' : A.c.size = st := by simpa using hl
      subst hl'
      simp only [hl, cond_true] at h
      cases hr : decide (0 ≤ n ∧ n < A.xs.length) with
      | false => simp [hr, Tree.sat] at h
      | true =>
        have hr' := of_decide_eq_true hr
        simp only [hr, cond_true] at h
        rcases h2.2 with ⟨_, k⟩ | ⟨g, cap, cur, rfl, k2, k3⟩
        · omega
        have hg := (h5 g).1 rfl
        rw [he g _ cap h1 hr'.1 hr'.2]
        exact hK σ _ _ _ (Ext.refl _) (hS.put hd (by simp only [Rep]; exact ⟨g, hg, rfl⟩)) h
  | .len id, he, h, hK => by
    simp only [AOk] at he
    simp only [evEff] at h
    split at h <;> try (simp [Tree.sat] at h; done)
    rename_i A hA
    obtain ⟨v, us, h1, h2, h3, h4, h5⟩ := hS.h.ob id _ hA
    rcases h2.2 with ⟨rfl, k⟩ | ⟨g, cap, cur, rfl, k2, k3, k4, k5, _⟩
    · rw [he _ _ _ h1]
      rw [k] at h
      exact hK σ _ _ _ (Ext.refl _) (hS.put hd (rep_int ⟨by simp [minK], by simp [maxK]⟩)) h
    · rw [he _ _ _ h1]
      simp only [maxLen] at k5
      exact hK σ _ _ _ (Ext.refl _) (hS.put hd (rep_int ⟨by simp only [minK]; omega, by simp only [maxK]; omega⟩)) h
  | .call f xs, he, h, hK => by
    simp only [AOk] at he
    obtain ⟨us, hu, rfl⟩ := he
    simp only [evEff] at h
    obtain ⟨h1, h2⟩ := hc w0 σ s.hp s.nx w (.fn f) xs us _ hS.h hS.bl hu h
    rw [h1]
    refine h2.mono ?_
    rintro e w' ⟨y, τ, hp', nx', h3, h4, h5, h6, h7⟩
    have hS' : Sat rd w0 τ { s with hp := hp', nx := nx' } a w' := hS.mono h3 h4 h5
    cases e with
    | returned v => cases y with
      | ret x => exact hK τ _ _ _ h3 (hS'.put hd h6) h7
      | pan x => exact h6.elim
    | panicked ch => cases y with
      | ret x => exact h6.elim
      | pan x => exact hP τ _ x ch w' h3 hS' h6 h7
    | outgrown => cases y <;> exact h6.elim
  | .round id xs, he, h, hK => by
    simp only [AOk] at he
    obtain ⟨us, b, hu, hb, rfl⟩ := he
    simp only [evEff] at h
    obtain ⟨l, f, tmps, assign, body, h1, h2⟩ := hc w0 σ s.hp s.nx w (.yld id) xs us _ hS.h hS.bl hu h b hb
    rw [h1]
    refine h2.mono ?_
    rintro e w' ⟨y, τ, hp', nx', h3, h4, h5, h6, h7⟩
    have hS' : Sat rd w0 τ { s with hp := hp', nx := nx' } a w' := hS.mono h3 h4 h5
    cases e with
    | returned v => cases y with
      | ret x => exact hK τ _ _ _ h3 (hS'.put hd h6) h7
      | pan x => exact h6.elim
    | panicked ch => cases y with
      | ret x => exact h6.elim
      | pan x => exact hP τ _ x ch w' h3 hS' h6 h7
    | outgrown => cases y <;> exact h6.elim
  | .dfr d, he, h, hK => by
    simp only [AOk] at he
    obtain ⟨D, hD, rfl⟩ := he
    simp only [evEff] at h
    cases hr : s.rd with
    | true => simp [hr, Tree.sat] at h
    | false =>
      simp only [hr, cond_false] at h
      have hrd : rd = false := hS.rd.symm.trans hr
      refine ⟨hrd, ?_⟩
      have hS' : Sat rd w0 σ { s with df := d :: s.df } { a with defers := D :: a.defers } w := ⟨hS.h, hS.tm, hS.n, .cons hD hS.df, hS.bl, hS.rd⟩
      exact hK σ _ _ _ (Ext.refl _) (hS'.put (x := .val undef) (v := undef) hd (by simp only [Rep])) (by first | exact h | (rw [hr] at *; exact h))
  | .panic x, he, h, hK => by
    simp only [AOk] at he
    obtain ⟨v, hv, rfl⟩ := he
    simp only [evEff] at h
    exact hP σ s x _ w (Ext.refl _) hS ⟨v, hv, rfl⟩ h
  | .test c e, he, h, hK => by
    simp only [AOk] at he
    simp only [evEff] at h
    cases c with
    | false => simp [Tree.sat] at h
    | true => exact evEff_sound hc hS hd hP e (he rfl) (by simpa using h) hK
  | .alt c x y, he, h, hK => by
    simp only [AOk] at he
    simp only [evEff] at h
    cases c with
    | false => exact evEff_sound hc hS hd hP y (he.2 rfl) (by simpa using h) hK
    | true => exact evEff_sound hc hS hd hP x (he.1 rfl) (by simpa using h) hK
  | .mapNew kc vc, he, h, hK => by
    simp only [AOk] at he
    subst he
    simp only [evEff] at h
    obtain ⟨τ, e, hτ, _, hh⟩ := hS.h.new (obj := .map #[] 0) (o := .mp ⟨kc, vc, fun _ => none, []⟩) (sv := none) (fun τ e _ h1 _ =>
      ⟨w.heap.size, #[], 0, h1, by show (w.heap.push _)[w.heap.size]? = _; simp, MapRel.nil _ _ _ _, hS.bl.size⟩)
    have hS' : Sat rd w0 τ { s with hp := upd s.hp s.nx (some (.mp ⟨kc, vc, fun _ => none, []⟩)), nx := s.nx + 1 } a _ := hS.mono e hh (hS.bl.alloc hS.bl.size _)
    exact hK τ _ _ _ e (hS'.put (x := .mp s.nx) hd (by simp only [Rep]; exact ⟨_, hτ, rfl⟩)) h
  | .mapGet id kc vc z k ok, he, h, hK => by
    simp only [AOk] at he
    obtain ⟨b, t, kt, vt, key, zv, e1, e2, e3, e4, e5, e6, rfl⟩ := he
    simp only [evEff] at h
    split at h <;> try (simp [Tree.sat] at h; done)
    rename_i M ho
    split at h <;> try (simp [Tree.sat] at h; done)
    rename_i k' z' hk hz
    obtain ⟨kc', vc', get, ents⟩ := M
    obtain ⟨hc, rfl⟩ := castL_one hk
    obtain ⟨hv, rfl⟩ := castL_one hz
    simp only at hc hv
    subst hc; subst hv
    obtain ⟨n, es, clock, h1, h2, h3, h4⟩ := hS.h.ob id _ ho
    rw [e1] at h1; cases h1
    obtain ⟨v, v1, v2⟩ := lookup_data (P := P) h2 h3 e2 e3 e4 e5 e6 ok
    simp only [Sem.run_bind, v2, Result.andThen_ok, Sem.run_pure]
    cases ok with
    | true =>
      simp only [cond_true] at h
      refine hK σ _ _ _ (Ext.refl _) (hS.put (v := .tuple #[v, .bool (get k).isSome]) hd ?_) h
      simp only [Rep, RepL]
      exact ⟨_, ⟨_, _, rfl, v1.rep, _, _, rfl, rfl, rfl⟩, rfl⟩
    | false =>
      simp only [cond_false] at h
      exact hK σ _ _ _ (Ext.refl _) (hS.put (v := v) hd v1.rep) h
  | .mapSet id kc vc k x, he, h, hK => by
    simp only [AOk] at he
    obtain ⟨b, t, kt, vt, key, v, e1, e2, e3, e4, e5, rfl⟩ := he
    simp only [evEff] at h
    split at h <;> try (simp [Tree.sat] at h; done)
    rename_i M ho
    split at h <;> try (simp [Tree.sat] at h; done)
    rename_i k' z' hk hz
    obtain ⟨kc', vc', get, ents⟩ := M
    obtain ⟨hc, rfl⟩ := castL_one hk
    obtain ⟨hv, rfl⟩ := castL_one hz
    simp only at hc hv
    subst hc; subst hv
    obtain ⟨n, es, clock, h1, h2, h3, h4⟩ := hS.h.ob id _ ho
    rw [e1] at h1; cases h1
    obtain ⟨es', clock', v2, v3⟩ := mapSet_data (P := P) h2 h3 e2 e3 e4 e5
    simp only [Sem.run_bind, v2, Result.andThen_ok, Sem.run_pure]
    have hh := hS.h.turnObj (by rw [ho]; simp) e1 (.map es' clock') (o := .mp _) ⟨b, es', clock', e1, heap_putObj _ h2, v3, h4⟩
    exact hK σ _ _ _ (Ext.refl _) ((hS.mono (Ext.refl _) hh (below_putObj hS.bl h4 _)).put hd (by simp only [Rep])) h
  | .mapDel id kc k, he, h, hK => by
    simp only [AOk] at he
    obtain ⟨b, ts, ty, t, kt, vt, key, e1, e2, e3, e4, e5, rfl⟩ := he
    simp only [evEff] at h
    split at h <;> try (simp [Tree.sat] at h; done)
    rename_i M ho
    split at h <;> try (simp [Tree.sat] at h; done)
    rename_i k' hk
    obtain ⟨kc', vc', get, ents⟩ := M
    obtain ⟨hc, rfl⟩ := castL_one hk
    simp only at hc
    subst hc
    obtain ⟨n, es, clock, h1, h2, h3, h4⟩ := hS.h.ob id _ ho
    rw [e1] at h1; cases h1
    obtain ⟨es', clock', v2, v3⟩ := mapDel_data (P := P) (ty := ty) h2 h3 e2 e3 e4 e5
    simp only [Sem.run_bind, v2, Result.andThen_ok, Sem.run_pure]
    have hh := hS.h.turnObj (by rw [ho]; simp) e1 (.map es' clock') (o := .mp _) ⟨b, es', clock', e1, heap_putObj _ h2, v3, h4⟩
    exact hK σ _ _ _ (Ext.refl _) ((hS.mono (Ext.refl _) hh (below_putObj hS.bl h4 _)).put hd (by simp only [Rep])) h
  | .mapEnt id kc vc z k, he, h, hK => by
    simp only [AOk] at he
    obtain ⟨b, t, kt, vt, key, zv, e1, e2, e3, e4, e5, e6, rfl⟩ := he
    simp only [evEff] at h
    split at h <;> try (simp [Tree.sat] at h; done)
    rename_i M ho
    split at h <;> try (simp [Tree.sat] at h; done)
    rename_i k' z' hk hz
    obtain ⟨kc', vc', get, ents⟩ := M
    obtain ⟨hc, rfl⟩ := castL_one hk
    obtain ⟨hv, rfl⟩ := castL_one hz
    simp only at hc hv
    subst hc; subst hv
    obtain ⟨n, es, clock, h1, h2, h3, h4⟩ := hS.h.ob id _ ho
    rw [e1] at h1; cases h1
    obtain ⟨es', clock', m, v, v1, v2, v3⟩ := mapEnt_data (P := P) h2 h3 e2 e3 e4 e5 e6
    simp only [Sem.run_bind, v2, Result.andThen_ok, Sem.run_pure]
    obtain ⟨he, hA⟩ := hS.h.addSv (some (.int .i64 (m : Int)))
    have hsv : (σ.add s.nx none (some (.int .i64 (m : Int)))).sv s.nx = some (.int .i64 (m : Int)) := upd_same _ _ _
    have hat : (σ.add s.nx none (some (.int .i64 (m : Int)))) id = some b := he.1 _ _ e1
    have hh := hA.turnObj (by rw [ho]; simp) hat (.map es' clock') (o := .mp _) ⟨b, es', clock', hat, heap_putObj _ h2, v3 s.nx _ (fun i v hi => he.3 i v hi) hsv, h4⟩
    refine hK _ _ _ _ he ((hS.mono he hh (below_putObj hS.bl h4 _)).put (v := .tuple #[v, .int .i64 (m : Int)]) hd ?_) h
    simp only [Rep, RepL]
    exact ⟨_, ⟨_, _, rfl, (v1.mono he.2).rep, _, _, rfl, ⟨hsv, _, rfl⟩, rfl⟩, rfl⟩
  | .entSet id st vc x, he, h, hK => by
    simp only [AOk] at he
    obtain ⟨b, t, m, v, e1, e2, e3, rfl⟩ := he
    simp only [evEff] at h
    split at h <;> try (simp [Tree.sat] at h; done)
    rename_i M ho
    split at h <;> try (simp [Tree.sat] at h; done)
    rename_i k' z' hk hz
    obtain ⟨kc', vc', get, ents⟩ := M
    obtain ⟨hv, rfl⟩ := castL_one hz
    simp only at hv
    subst hv
    obtain ⟨n, es, clock, h1, h2, h3, h4⟩ := hS.h.ob id _ ho
    rw [e1] at h1; cases h1
    cases hkc : keyC kc' with
    | false => rw [hkc, cond_false] at h; simp [Tree.sat] at h
    | true =>
      rw [hkc, cond_true] at h
      obtain ⟨es', v2, v3⟩ := entSet_data (P := P) (t := t) hkc h2 h3 hk e2 e3
      simp only [Sem.run_bind, v2, Result.andThen_ok, Sem.run_pure]
      have hh := hS.h.turnObj (by rw [ho]; simp) e1 (.map es' clock) (o := .mp _) ⟨b, es', clock, e1, heap_putObj _ h2, v3, h4⟩
      exact hK σ _ _ _ (Ext.refl _) ((hS.mono (Ext.refl _) hh (below_putObj hS.bl h4 _)).put hd (by simp only [Rep])) h
  | .iter t, he, h, hK => by
    simp only [AOk] at he
    subst he
    simp only [evEff] at h
    obtain ⟨τ, e, hτ, _, hh⟩ := hS.h.new (obj := .stringIter t 0) (o := .it t 0) (sv := none) (fun τ e _ h1 _ =>
      ⟨w.heap.size, h1, by show (w.heap.push _)[w.heap.size]? = _; simp, hS.bl.size⟩)
    have hS' : Sat rd w0 τ { s with hp := upd s.hp s.nx (some (.it t 0)), nx := s.nx + 1 } a _ := hS.mono e hh (hS.bl.alloc hS.bl.size _)
    exact hK τ _ _ _ e (hS'.put (x := .ptr s.nx 0 0 0) hd (by simp only [Rep]; exact ⟨_, hτ, by simp⟩)) h
  | .nxt id, he, h, hK => by
    simp only [AOk] at he
    obtain ⟨b, hb, he⟩ := he
    simp only [evEff] at h
    split at h <;> try (simp [Tree.sat] at h; done)
    rename_i t pos ho
    obtain ⟨n, h1, h2, h3⟩ := hS.h.ob id _ ho
    rw [hb] at h1; cases h1
    obtain ⟨he1, he2⟩ := he t pos h2
    cases hp : Nat.ble (pos + 1) t.size with
    | false =>
      rw [hp, cond_false] at h
      rw [he2 (fun k => by rw [Nat.ble_eq_true_of_le k] at hp; exact absurd hp (by decide))]
      exact hK σ _ _ _ (Ext.refl _) (hS.put (x := .tup [.bool false]) (v := .tuple #[.bool false]) hd (by simp only [Rep, RepL]; exact ⟨_, ⟨_, _, rfl, rfl, rfl⟩, rfl⟩)) h
    | true =>
      rw [hp, cond_true] at h
      rw [he1 (Nat.le_of_ble_eq_true hp)]
      cases hk : (inKB .i64 pos && inKB .i32 (Utf8.decode t pos).1) with
      | false => rw [hk, cond_false] at h; simp [Tree.sat] at h
      | true =>
        rw [hk, cond_true] at h
        rw [Bool.and_eq_true] at hk
        have hh := hS.h.turnObj (by rw [ho]; simp) hb (.stringIter t (pos + (Utf8.decode t pos).2)) (o := .it t (pos + (Utf8.decode t pos).2)) ⟨b, hb, by
          show (w.heap.setIfInBounds b _)[b]? = _
          rw [Array.getElem?_setIfInBounds]
          simp [heap_lt h2], h3⟩
        have hS' : Sat rd w0 σ { s with hp := upd s.hp id (some (.it t (pos + (Utf8.decode t pos).2))) } a (w.putObj b (.stringIter t (pos + (Utf8.decode t pos).2))) := hS.mono (Ext.refl _) hh (below_putObj hS.bl h3 _)
        refine hK σ _ _ _ (Ext.refl _) (hS'.put (x := .tup [.bool true, .int .i64 pos, .int .i32 (Utf8.decode t pos).1]) hd ?_) h
        simp only [Rep, RepL]
        exact ⟨_, ⟨_, _, rfl, rfl, _, _, rfl, ⟨rfl, inKB_spec.1 hk.1⟩, _, _, rfl, ⟨rfl, inKB_spec.1 hk.2⟩, rfl⟩, rfl⟩
  | .trunc id st n, he, h, hK => by
    obtain ⟨v, τ, s', rfl, h1, h2, h3⟩ := trunc_sound hS hd he h
    exact hK τ s' _ _ h1 h2 h3
  | .bad, _, h, _ => by simp [evEff, Tree.sat] at h

theorem Sat.learn {rd : Bool} {w0 : World} {σ : Env} {s : St} {a : Go.Act} {w : World} (h : Sat rd w0 σ s a w) {d : Nat} {x : AV} (hx : Rep σ x (a.tmps.getD d undef)) : Sat rd w0 σ (s.put (some d) x) a w := by
  refine ⟨h.h, fun t => ?_, h.n, h.df, h.bl, h.rd⟩
  by_cases ht : t = d
  · subst ht
    show Rep σ (upd s.tm t x t) _
    rw [upd_same]; exact hx
  · show Rep σ (upd s.tm d x t) _
    rw [upd_other _ _ ht]; exact h.tm t

theorem yielded_of {ops : Array Oper} {a : Go.Act} {j d : Nat} (hd : (ops[j]?).bind (·.dst) = some d) (hlt : d < a.tmps.size) : yielded ops a.tmps j = match a.tmps.getD d undef with | .bool b => some b | _ => none := by
  have : a.tmps[d]? = some (a.tmps.getD d undef) := by simp [Array.getD, hlt]
  unfold yielded
  rw [hd]
  simp only [Option.bind_some, this]
  cases a.tmps.getD d undef <;> rfl

theorem evOps_step (hc : CTok P cT R) {rd : Bool} {w0 : World} {ops : Array Oper} {K : XE → St → Tree α} {Q : Exit → Go.Act → World → Prop} {next : Go.Act → World → Prop} {i : Nat} {rest : List Nat} {σ : Env} {s : St} {a : Go.Act} {w : World}
    (hS : Sat rd w0 σ s a w) (h : (evOps P cT ops (i :: rest) s K).sat R) (hP : ∀ τ s' x ch a' w', Ext σ τ → Sat rd w0 τ s' a' w' → ExR τ (.panic x) (.panic ch) → (K (.panic x) s').sat R → Q (.panic ch) a' w') (IH : ∀ τ s' a' w', Ext σ τ → Sat rd w0 τ s' a' w' → (evOps P cT ops rest s' K).sat R → next a' w') : wpOpX P rd ops Q i next a w := by
    unfold wpOpX
    simp only [evOps] at h
    cases ho : ops[i]? with
    | none => simp only [ho] at h ⊢; exact IH σ s a w (Ext.refl _) hS h
    | some o =>
      simp only [ho] at h ⊢
      cases hd : Nat.ble s.n (o.dst.getD 0) with
      | true => simp [hd, Tree.sat] at h
      | false =>
        simp only [hd, cond_false] at h
        have hd' : o.dst.getD 0 < s.n := by
          rcases Nat.lt_or_ge (o.dst.getD 0) s.n with x | x
          · exact x
          · have : Nat.ble s.n (o.dst.getD 0) = true := by simpa using x
            rw [this] at hd; simp at hd
        cases hg : o.guard with
        | none =>
          simp only [hg] at h
          rw [if_pos (by simp [Region.wanted, hg])]
          exact evEff_sound (K := fun e s' => match e with | .normal => evOps P cT ops rest s' K | e => K e s') hc hS hd' (fun τ s' x ch w' e hS' hx hk => hP τ s' x ch a w' e hS' hx hk) _ (eff_ok hS.h.mem hS.eval o) h IH
        | some g =>
          obtain ⟨j, want⟩ := g
          simp only [hg] at h
          cases hdst : (ops[j]?).bind (·.dst) with
          | none => simp [hdst, Tree.sat] at h
          | some d =>
            simp only [hdst] at h
            cases hn : Nat.ble s.n d with
            | true => simp [hn, Tree.sat] at h
            | false =>
              simp only [hn, cond_false] at h
              have hlt : d < a.tmps.size := by
                rw [hS.n]
                rcases Nat.lt_or_ge d s.n with x | x
                · exact x
                · have : Nat.ble s.n d = true := by simpa using x
                  rw [this] at hn; simp at hn
              have hy := yielded_of hdst hlt
              have hr := hS.tm d
              cases hx : s.tm d with
              | bool b =>
                rw [hx] at hr h
                simp only [Rep] at hr
                rw [hr] at hy
                simp only at hy h
                have hw : Region.wanted o (yielded ops a.tmps) = (b == want) := by simp [Region.wanted, hg, hy]
                have hL : Sat rd w0 σ (s.put (some d) (.bool b)) a w := hS.learn (by rw [hr]; simp only [Rep])
                cases b <;> cases want <;> simp only [cond_true, cond_false] at h <;> rw [hw]
                · rw [if_pos (show (false == false) = true from rfl)]
                  exact evEff_sound (K := fun e s' => match e with | .normal => evOps P cT ops rest s' K | e => K e s') hc hL hd' (fun τ s' x ch w' e hS' hx hk => hP τ s' x ch a w' e hS' hx hk) _ (eff_ok hL.h.mem hL.eval o) h IH
                · rw [if_neg (by decide)]
                  exact IH σ _ _ _ (Ext.refl _) (hL.put hd' (by simp only [Rep])) h
                · rw [if_neg (by decide)]
                  exact IH σ _ _ _ (Ext.refl _) (hL.put hd' (by simp only [Rep])) h
                · rw [if_pos (show (true == true) = true from rfl)]
                  exact evEff_sound (K := fun e s' => match e with | .normal => evOps P cT ops rest s' K | e => K e s') hc hL hd' (fun τ s' x ch w' e hS' hx hk => hP τ s' x ch a w' e hS' hx hk) _ (eff_ok hL.h.mem hL.eval o) h IH
              | val v =>
                rw [hx] at hr h
                simp only [Rep] at hr
                cases v with
                | tuple vs =>
                  rw [hr] at hy
                  simp only at hy h
                  rw [if_neg (by simp [Region.wanted, hg, hy])]
                  exact IH σ _ _ _ (Ext.refl _) (hS.put hd' (by simp only [Rep])) h
                | _ => simp [Tree.sat] at h
              | _ => rw [hx] at h; simp [Tree.sat] at h
theorem evOps_sound (hc : CTok P cT R) {rd : Bool} {w0 : World} {ops : Array Oper} {K : XE → St → Tree α} {Q : Exit → Go.Act → World → Prop} : ∀ (l : List Nat) (σ : Env) (s : St) (a : Go.Act) (w : World),
    Sat rd w0 σ s a w → (evOps P cT ops l s K).sat R → (∀ τ s' a' w' e ex, Ext σ τ → Sat rd w0 τ s' a' w' → ExR τ e ex → (K e s').sat R → Q ex a' w') → wpOpsX P rd ops Q l a w
  | [], σ, s, a, w, hS, h, hK => hK σ s a w .normal .normal (Ext.refl _) hS trivial h
  | i :: rest, σ, s, a, w, hS, h, hK => by
    show wpOpX P rd ops Q i (wpOpsX P rd ops Q rest) a w
    exact evOps_step hc hS h (fun τ s' x ch a' w' e hS' hx hk => hK τ s' a' w' _ _ e hS' hx hk) fun τ s' a' w' e hS' h' => evOps_sound hc rest τ s' a' w' hS' h' (fun τ' s2 a2 w2 x2 ex2 e2 => hK τ' s2 a2 w2 x2 ex2 (e.trans e2))

end
end V
end Go.Proofs.Ytdblbofagfhlbaa
/- That the symbolic evaluator of the text Ea is sound: a region whose order is open. -/
namespace Go.Proofs.Ytdblbofagfhlbaa
open Go.RowKit
namespace V

/-- the function is one with a body, and no name that the machine treats by itself -/
def Plain (P : Program) (f : FuncId) : Prop := ∃ fn, P.funcs[f]? = some fn ∧ (fn.name == "runtime.NumGoroutine") = false ∧ fn.body.isSome = true
theorem Plain.run {P : Program} {f : FuncId} (h : Plain P f) (us : Array Value) (w : World) : (callFunc f us).run P w = .ok (.enter f us) w := by
  obtain ⟨fn, h1, h2, h3⟩ := h
  have h4 : fn.body.isNone = false := by cases hb : fn.body <;> simp [hb] at h3 ⊢
  simp only [callFunc, Sem.run_bind, run_program, Result.andThen_ok, h1, h2, h4, Bool.false_eq_true, if_false, Sem.run_pure]

theorem assoc_mem {β : Type} : ∀ {l : List (Nat × β)} {i : Nat} {x : β}, assoc l i = some x → (i, x) ∈ l
  | [], _, _, h => by simp [assoc] at h
  | (k, y) :: l, i, x, h => by
    simp only [assoc] at h
    by_cases hk : k = i
    · subst hk
      simp at h; subst h; simp
    · simp only [beq_ne hk, cond_false] at h
      exact List.mem_cons_of_mem _ (assoc_mem h)

/-- what is owed for the summary of a function that leaves memory alone -/
def PureOk (P : Program) (f : FuncId) (g : PureT) : Prop :=
  ∀ (σ : Env) (w : World) (xs : List AV) (us : List Value) (x : AV), (∀ i n, σ i = some n → n < w.heap.size) → MemOk σ.mem w → RepL σ xs us → g.run xs = some (true, x) →
    Calls' P f us.toArray w fun e w' => ∃ v m', e = .returned v ∧ MemOk m' w' ∧ (∀ b o u, σ.mem b o = some u → m' b o = some u) ∧ (∀ b o u, m' b o = some u → σ.mem b o = some u ∨ w.heap.size ≤ b) ∧ (g.flat = false → Rep ⟨fun _ => none, m', fun _ => none, fun _ _ => none, fun _ => none, 0⟩ x v) ∧ (g.flat = true → ∀ τ : Env, (∀ i b, σ i = some b → τ i = some b) → Rep τ x v) ∧ Below w.heap.size w w'

theorem setsA_get {β : Type} : ∀ (vs : List β) (lo : Nat) (cs : List β) (c : Nat), (setsA cs lo vs)[c]? = if lo ≤ c ∧ c < lo + vs.length ∧ c < cs.length then vs[c - lo]? else cs[c]?
  | [], lo, cs, c => by
    simp only [setsA, List.length_nil]
    rw [if_neg (by omega)]
  | v :: vs, lo, cs, c => by
    simp only [setsA, setA_eq]
    rw [setsA_get vs (lo + 1) (cs.set lo v) c]
    simp only [List.length_set, List.length_cons]
    by_cases h1 : lo + 1 ≤ c ∧ c < lo + 1 + vs.length ∧ c < cs.length
    · rw [if_pos h1, if_pos (by omega)]
      have : c - lo = (c - (lo + 1)) + 1 := by omega
      rw [this, List.getElem?_cons_succ]
    · rw [if_neg h1, List.getElem?_set]
      by_cases h2 : lo = c
      · subst h2
        rw [if_pos rfl]
        by_cases h3 : lo < cs.length
        · rw [if_pos h3, if_pos (by omega)]; simp
        · rw [if_neg h3, if_neg (by omega), List.getElem?_eq_none (by omega)]
      · rw [if_neg h2, if_neg (by omega)]
theorem setsA_comm {β : Type} (cs : List β) {lo lo' : Nat} {vs vs' : List β} (h : lo + vs.length ≤ lo' ∨ lo' + vs'.length ≤ lo) : setsA (setsA cs lo vs) lo' vs' = setsA (setsA cs lo' vs') lo vs := by
  apply List.ext_getElem?
  intro c
  rw [setsA_get, setsA_get, setsA_get, setsA_get, setsA_length, setsA_length]
  by_cases h1 : lo ≤ c ∧ c < lo + vs.length ∧ c < cs.length
  · by_cases h2 : lo' ≤ c ∧ c < lo' + vs'.length ∧ c < cs.length
    · omega
    · rw [if_neg h2, if_pos h1, if_pos h1]
  · by_cases h2 : lo' ≤ c ∧ c < lo' + vs'.length ∧ c < cs.length
    · rw [if_pos h2, if_neg h1, if_pos h2]
    · rw [if_neg h2, if_neg h1, if_neg h1, if_neg h2]

def appD (nx : Nat) (D : Nat → Bool) : Nat → List It → St → St
  | _, [], s => s
  | k, it :: l, s => appD nx D (k + 1) l (bif D k then it.app (nx + k) s else s)

theorem app_n (id0 : Nat) (it : It) (s : St) : (it.app id0 s).n = s.n := by
  unfold It.app St.put; split <;> rfl
theorem app_nx (id0 : Nat) (it : It) (s : St) : (it.app id0 s).nx = s.nx := by
  unfold It.app St.put; split <;> rfl
theorem app_df (id0 : Nat) (it : It) (s : St) : (it.app id0 s).df = s.df := by
  unfold It.app St.put; split <;> rfl
theorem app_rd (id0 : Nat) (it : It) (s : St) : (it.app id0 s).rd = s.rd := by
  unfold It.app St.put; split <;> rfl
theorem app_hp (id0 : Nat) (it : It) (s : St) : (it.app id0 s).hp = it.mem.app id0 s.hp := by
  unfold It.app St.put; split <;> rfl
theorem app_tm (id0 : Nat) (it : It) (s : St) (t : Nat) : (it.app id0 s).tm t = if it.dst = some t then it.res else s.tm t := by
  unfold It.app St.put
  cases h : it.dst with
  | none => simp
  | some d =>
    simp only
    by_cases hd : t = d
    · subst hd; rw [upd_same]; simp
    · rw [upd_other _ _ hd, if_neg (by simp; exact fun e => hd e.symm)]

section
variable {nx : Nat}
theorem appD_n (D : Nat → Bool) : ∀ (l : List It) (k : Nat) (s : St), (appD nx D k l s).n = s.n
  | [], _, _ => rfl
  | it :: l, k, s => by
    simp only [appD]; rw [appD_n D l]; cases D k
    · rfl
    · exact app_n _ _ _
theorem appD_nx (D : Nat → Bool) : ∀ (l : List It) (k : Nat) (s : St), (appD nx D k l s).nx = s.nx
  | [], _, _ => rfl
  | it :: l, k, s => by
    simp only [appD]; rw [appD_nx D l]; cases D k
    · rfl
    · exact app_nx _ _ _

theorem appD_df (D : Nat → Bool) : ∀ (l : List It) (k : Nat) (s : St), (appD nx D k l s).df = s.df
  | [], _, _ => rfl
  | it :: l, k, s => by
    simp only [appD]
    rw [appD_df D l]
    cases D k
    · rfl
    · simp only [cond_true, app_df]
theorem appD_rd (D : Nat → Bool) : ∀ (l : List It) (k : Nat) (s : St), (appD nx D k l s).rd = s.rd
  | [], _, _ => rfl
  | it :: l, k, s => by
    simp only [appD]
    rw [appD_rd D l]
    cases D k
    · rfl
    · simp only [cond_true, app_rd]
theorem appD_tm {D E : Nat → Bool} {t : Nat} : ∀ (l : List It) (k : Nat) (s s' : St), s.tm t = s'.tm t → (∀ m it, l[m]? = some it → it.dst = some t → D (k + m) = E (k + m)) → (appD nx D k l s).tm t = (appD nx E k l s').tm t
  | [], _, _, _, h, _ => h
  | it :: l, k, s, s', h, hd => by
    simp only [appD]
    refine appD_tm l (k + 1) _ _ ?_ (fun m it' hm hi => by have := hd (m + 1) it' (by simpa using hm) hi; rwa [show k + (m + 1) = k + 1 + m by omega] at this)
    by_cases hi : it.dst = some t
    · have h0 : D k = E k := hd 0 it rfl hi
      rw [h0]
      cases E k
      · exact h
      · simp only [cond_true]; rw [app_tm, app_tm, if_pos hi, if_pos hi]
    · cases D k <;> cases E k <;> simp only [cond_true, cond_false, app_tm, if_neg hi] <;> exact h
theorem appD_tm_some {D : Nat → Bool} {t : Nat} : ∀ (l : List It) (k : Nat) (s : St) (m : Nat) (it : It), l[m]? = some it → it.dst = some t → D (k + m) = true → (∀ m' it', m' ≠ m → l[m']? = some it' → it'.dst ≠ some t) → (appD nx D k l s).tm t = it.res
  | [], _, _, m, it, h, _, _, _ => by simp at h
  | i0 :: l, k, s, 0, it, h, hd, hD, hu => by
    simp at h; subst h
    have hD' : D k = true := hD
    simp only [appD, hD', cond_true]
    rw [appD_tm (E := fun _ => false) l (k + 1) _ ((i0.app (nx + k) s)) rfl (fun m it' hm hi => absurd hi (hu (m + 1) it' (by omega) (by simpa using hm)))]
    have : ∀ (l : List It) (k : Nat) (s : St), appD nx (fun _ => false) k l s = s := by
      intro l; induction l with
      | nil => intros; rfl
      | cons a l ih => intro k s; simp only [appD, cond_false]; exact ih _ _
    rw [this, app_tm, if_pos hd]
  | i0 :: l, k, s, m + 1, it, h, hd, hD, hu => by
    simp only [appD]
    exact appD_tm_some l (k + 1) _ m it (by simpa using h) hd (by rwa [show k + (m + 1) = k + 1 + m by omega] at hD) (fun m' it' hm' hi => hu (m' + 1) it' (by omega) (by simpa using hi))

/-- what a block's cell is, and its block's form; what a list is -/
def info (hp : Heap) (id c : Nat) : Option (Option (Sum (TypeId × Nat × Option AV) (Sum Arr Mp))) := (hp id).map fun o => match o with | .blk b => some (.inl (b.ty, b.cs.length, b.cs[c]?)) | .arr A => some (.inr (.inl A)) | .mp M => some (.inr (.inr M)) | _ => none
def writes (m : Mem) (id0 id c : Nat) : Prop :=
  match m with
  | .st id' lo vs => id' = id ∧ lo ≤ c ∧ c < lo + vs.length
  | .al _ => id0 = id
  | .sa id' _ => id' = id
  | .aa _ => id0 = id
  | .sm id' _ => id' = id
  | _ => False
theorem info_same {m : Mem} {id0 id c : Nat} (h : ¬ writes m id0 id c) (hp : Heap) : info (m.app id0 hp) id c = info hp id c := by
  cases m with
  | st id' lo vs =>
    simp only [Mem.app, info]
    by_cases hid : id = id'
    · subst hid
      rw [upd_same]
      cases hb : hp id with
      | none => rfl
      | some b =>
        cases b with
        | blk b =>
          simp only [Option.map_some, setsA_length, setsA_get]
          rw [if_neg (fun hh => h ⟨rfl, hh.1, hh.2.1⟩)]
        | _ => rfl
    · rw [upd_other _ _ hid]
  | al b =>
    simp only [Mem.app, info]
    rw [upd_other _ _ (fun e => h e.symm)]
  | sa id' A =>
    simp only [Mem.app, info]
    rw [upd_other _ _ (fun e => h e.symm)]
  | aa A =>
    simp only [Mem.app, info]
    rw [upd_other _ _ (fun e => h e.symm)]
  | sm id' M =>
    simp only [Mem.app, info]
    rw [upd_other _ _ (fun e => h e.symm)]
  | _ => rfl
theorem info_congr (m : Mem) (id0 : Nat) {id c : Nat} {hp hp' : Heap} (h : info hp id c = info hp' id c) : info (m.app id0 hp) id c = info (m.app id0 hp') id c := by
  cases m with
  | st id' lo vs =>
    simp only [Mem.app, info] at h ⊢
    by_cases hid : id = id'
    · subst hid
      rw [upd_same, upd_same]
      cases hb : hp id with
      | none => cases hb' : hp' id with
        | none => rfl
        | some b' => simp [hb, hb'] at h
      | some b => cases hb' : hp' id with
        | none => simp [hb, hb'] at h
        | some b' =>
          rw [hb, hb'] at h
          cases b <;> cases b' <;> simp only [Option.map_some, Option.some.injEq, Sum.inl.injEq, Sum.inr.injEq, Prod.mk.injEq, reduceCtorEq] at h ⊢
          · obtain ⟨h1, h3, h4⟩ := h
            refine ⟨h1, by rw [setsA_length, setsA_length, h3], ?_⟩
            rw [setsA_get, setsA_get, h3, h4]
          · exact h
          · exact h
    · rw [upd_other _ _ hid, upd_other _ _ hid]; exact h
  | al b =>
    simp only [Mem.app, info] at h ⊢
    by_cases hid : id = id0
    · subst hid; rw [upd_same, upd_same]
    · rw [upd_other _ _ hid, upd_other _ _ hid]; exact h
  | sa id' A =>
    simp only [Mem.app, info] at h ⊢
    by_cases hid : id = id'
    · subst hid; rw [upd_same, upd_same]
    · rw [upd_other _ _ hid, upd_other _ _ hid]; exact h
  | aa A =>
    simp only [Mem.app, info] at h ⊢
    by_cases hid : id = id0
    · subst hid; rw [upd_same, upd_same]
    · rw [upd_other _ _ hid, upd_other _ _ hid]; exact h
  | sm id' M =>
    simp only [Mem.app, info] at h ⊢
    by_cases hid : id = id'
    · subst hid; rw [upd_same, upd_same]
    · rw [upd_other _ _ hid, upd_other _ _ hid]; exact h
  | _ => exact h
theorem appD_info {D E : Nat → Bool} {id c : Nat} : ∀ (l : List It) (k : Nat) (s s' : St), info s.hp id c = info s'.hp id c → (∀ m it, l[m]? = some it → writes it.mem (nx + (k + m)) id c → D (k + m) = E (k + m)) → info (appD nx D k l s).hp id c = info (appD nx E k l s').hp id c
  | [], _, _, _, h, _ => h
  | it :: l, k, s, s', h, hd => by
    simp only [appD]
    refine appD_info l (k + 1) _ _ ?_ (fun m it' hm hi => by
      have := hd (m + 1) it' (by simpa using hm) (by rw [show k + (m + 1) = k + 1 + m by omega]; exact hi)
      rwa [show k + (m + 1) = k + 1 + m by omega] at this)
    by_cases hi : writes it.mem (nx + k) id c
    · have h0 : D k = E k := hd 0 it rfl hi
      rw [h0]
      cases E k
      · exact h
      · simp only [cond_true]; rw [app_hp, app_hp]; exact info_congr _ _ h
    · cases D k <;> cases E k <;> simp only [cond_true, cond_false, app_hp, info_same hi] <;> exact h

theorem mem_comm {a b : Nat} {m k : Mem} (hab : a ≠ b) (h : memIndep a m b k = true) (hp : Heap) : m.app a (k.app b hp) = k.app b (m.app a hp) := by
  have ap : ∀ {id lo hi id' lo' hi' : Nat}, apartB id lo hi id' lo' hi' = true → id ≠ id' ∨ hi ≤ lo' ∨ hi' ≤ lo := by
    intro id lo hi id' lo' hi' hh
    simp only [apartB, Bool.or_eq_true, Bool.not_eq_true', Nat.ble_eq] at hh
    rcases hh with hh | hh
    · exact .inl (fun e => by subst e; simp at hh)
    · exact .inr hh
  have ne : ∀ {x y : Nat}, (!(Nat.beq x y)) = true → x ≠ y := fun hh e => by subst e; simp at hh
  have two : ∀ {x y : Nat} {u v : Option Ob → Option Ob} (_ : x ≠ y), upd (upd hp y (v (hp y))) x (u (upd hp y (v (hp y)) x)) = upd (upd hp x (u (hp x))) y (v (upd hp x (u (hp x)) y)) := by
    intro x y u v hxy
    funext j
    rw [upd_other _ _ hxy, upd_other _ _ (Ne.symm hxy)]
    by_cases hj : j = x
    · subst hj; simp only [upd_same, upd_other _ _ hxy]
    · by_cases hj' : j = y
      · subst hj'; simp only [upd_same, upd_other _ _ (Ne.symm hxy)]
      · simp only [upd_other _ _ hj, upd_other _ _ hj']
  cases m with
  | no => cases k <;> rfl
  | ld id lo hi => cases k <;> rfl
  | la id => cases k <;> rfl
  | lp => cases k <;> rfl
  | st id lo vs =>
    cases k with
    | no => rfl
    | ld _ _ _ => rfl
    | la _ => rfl
    | lp => rfl
    | st id' lo' vs' =>
      simp only [memIndep, Mem.nrm, memIndep0] at h
      have := ap h
      rw [lenA_eq, lenA_eq] at this
      by_cases hid : id = id'
      · subst hid
        simp only [Mem.app]
        funext j
        by_cases hj : j = id
        · subst hj
          simp only [upd_same]
          cases hp j with
          | none => rfl
          | some b =>
            cases b with
            | blk b =>
              simp only
              rw [setsA_comm]
              rcases this with h1 | h1 | h1
              · exact absurd rfl h1
              · exact .inr h1
              · exact .inl h1
            | _ => rfl
        · simp only [upd_other _ _ hj]
      · exact two (u := fun o => match o with | some (.blk b) => some (.blk ⟨b.ty, setsA b.cs lo vs⟩) | o => o) (v := fun o => match o with | some (.blk b) => some (.blk ⟨b.ty, setsA b.cs lo' vs'⟩) | o => o) hid
    | al blk =>
      simp only [memIndep, Mem.nrm, memIndep0] at h
      exact two (u := fun o => match o with | some (.blk b) => some (.blk ⟨b.ty, setsA b.cs lo vs⟩) | o => o) (v := fun _ => some (.blk blk)) (ne h)
    | sa id' A =>
      simp only [memIndep, Mem.nrm, memIndep0] at h
      exact two (u := fun o => match o with | some (.blk b) => some (.blk ⟨b.ty, setsA b.cs lo vs⟩) | o => o) (v := fun _ => some (.arr A)) (Ne.symm (ne h))
    | aa A =>
      simp only [memIndep, Mem.nrm, memIndep0] at h
      exact two (u := fun o => match o with | some (.blk b) => some (.blk ⟨b.ty, setsA b.cs lo vs⟩) | o => o) (v := fun _ => some (.arr A)) (ne h)
    | sm id' M =>
      simp only [memIndep, Mem.nrm, memIndep0] at h
      exact two (u := fun o => match o with | some (.blk b) => some (.blk ⟨b.ty, setsA b.cs lo vs⟩) | o => o) (v := fun _ => some (.mp M)) (Ne.symm (ne h))
  | aa A =>
    cases k with
    | no => rfl
    | ld _ _ _ => rfl
    | la _ => rfl
    | lp => rfl
    | st id' lo' vs' =>
      simp only [memIndep, Mem.nrm, memIndep0] at h
      exact two (u := fun _ => some (.arr A)) (v := fun o => match o with | some (.blk b) => some (.blk ⟨b.ty, setsA b.cs lo' vs'⟩) | o => o) (Ne.symm (ne h))
    | al blk' => exact two (u := fun _ => some (.arr A)) (v := fun _ => some (.blk blk')) hab
    | sa id' A' =>
      simp only [memIndep, Mem.nrm, memIndep0] at h
      exact two (u := fun _ => some (.arr A)) (v := fun _ => some (.arr A')) (Ne.symm (ne h))
    | aa A' => exact two (u := fun _ => some (.arr A)) (v := fun _ => some (.arr A')) hab
    | sm id' M =>
      simp only [memIndep, Mem.nrm, memIndep0] at h
      exact two (u := fun _ => some (.arr A)) (v := fun _ => some (.mp M)) (Ne.symm (ne h))
  | al blk =>
    cases k with
    | no => rfl
    | ld _ _ _ => rfl
    | la _ => rfl
    | lp => rfl
    | st id' lo' vs' =>
      simp only [memIndep, Mem.nrm, memIndep0] at h
      exact two (u := fun _ => some (.blk blk)) (v := fun o => match o with | some (.blk b) => some (.blk ⟨b.ty, setsA b.cs lo' vs'⟩) | o => o) (Ne.symm (ne h))
    | al blk' => exact two (u := fun _ => some (.blk blk)) (v := fun _ => some (.blk blk')) hab
    | sa id' A =>
      simp only [memIndep, Mem.nrm, memIndep0] at h
      exact two (u := fun _ => some (.blk blk)) (v := fun _ => some (.arr A)) (Ne.symm (ne h))
    | aa A => exact two (u := fun _ => some (.blk blk)) (v := fun _ => some (.arr A)) hab
    | sm id' M =>
      simp only [memIndep, Mem.nrm, memIndep0] at h
      exact two (u := fun _ => some (.blk blk)) (v := fun _ => some (.mp M)) (Ne.symm (ne h))
  | sa id A =>
    cases k with
    | no => rfl
    | ld _ _ _ => rfl
    | la _ => rfl
    | lp => rfl
    | st id' lo' vs' =>
      simp only [memIndep, Mem.nrm, memIndep0] at h
      exact two (u := fun _ => some (.arr A)) (v := fun o => match o with | some (.blk b) => some (.blk ⟨b.ty, setsA b.cs lo' vs'⟩) | o => o) (ne h)
    | al blk' =>
      simp only [memIndep, Mem.nrm, memIndep0] at h
      exact two (u := fun _ => some (.arr A)) (v := fun _ => some (.blk blk')) (ne h)
    | sa id' A' =>
      simp only [memIndep, Mem.nrm, memIndep0, Bool.and_eq_true] at h
      exact two (u := fun _ => some (.arr A)) (v := fun _ => some (.arr A')) (ne h.1)
    | aa A' =>
      simp only [memIndep, Mem.nrm, memIndep0] at h
      exact two (u := fun _ => some (.arr A)) (v := fun _ => some (.arr A')) (ne h)
    | sm id' M =>
      simp only [memIndep, Mem.nrm, memIndep0] at h
      exact two (u := fun _ => some (.arr A)) (v := fun _ => some (.mp M)) (Ne.symm (ne h))
  | sm id M =>
    cases k with
    | no => rfl
    | ld _ _ _ => rfl
    | la _ => rfl
    | lp => rfl
    | st id' lo' vs' =>
      simp only [memIndep, Mem.nrm, memIndep0] at h
      exact two (u := fun _ => some (.mp M)) (v := fun o => match o with | some (.blk b) => some (.blk ⟨b.ty, setsA b.cs lo' vs'⟩) | o => o) (ne h)
    | al blk' =>
      simp only [memIndep, Mem.nrm, memIndep0] at h
      exact two (u := fun _ => some (.mp M)) (v := fun _ => some (.blk blk')) (ne h)
    | sa id' A' =>
      simp only [memIndep, Mem.nrm, memIndep0] at h
      exact two (u := fun _ => some (.mp M)) (v := fun _ => some (.arr A')) (ne h)
    | aa A' =>
      simp only [memIndep, Mem.nrm, memIndep0] at h
      exact two (u := fun _ => some (.mp M)) (v := fun _ => some (.arr A')) (ne h)
    | sm id' M' =>
      simp only [memIndep, Mem.nrm, memIndep0, Bool.and_eq_true] at h
      exact two (u := fun _ => some (.mp M)) (v := fun _ => some (.mp M')) (ne h.1)

/-- all of a list's items, in their order: one more item is put in at its place, or at the end -/
theorem appD_push {D : Nat → Bool} {i : Nat} {it : It} : ∀ (l : List It) (k : Nat) (hp : Heap) (s : St), s.hp = it.mem.app (nx + i) hp → ∀ (s' : St), s'.hp = hp → i < k →
    (∀ m q, l[m]? = some q → D (k + m) = true → memIndep (nx + i) it.mem (nx + (k + m)) q.mem = true) → (appD nx D k l s).hp = it.mem.app (nx + i) (appD nx D k l s').hp
  | [], _, _, _, h, _, h', _, _ => by simp only [appD]; rw [h, h']
  | q :: l, k, hp, s, h, s', h', hk, hm => by
    simp only [appD]
    cases hD : D k
    · simp only [cond_false]
      exact appD_push l (k + 1) hp _ h _ h' (by omega) (fun m q' hq hd => by
        have := hm (m + 1) q' (by simpa using hq) (by rw [show k + (m + 1) = k + 1 + m by omega]; exact hd)
        rwa [show k + (m + 1) = k + 1 + m by omega] at this)
    · simp only [cond_true]
      have h0 := hm 0 q rfl (by simpa using hD)
      refine appD_push l (k + 1) (q.mem.app (nx + k) hp) _ ?_ _ ?_ (by omega) (fun m q' hq hd => by
        have := hm (m + 1) q' (by simpa using hq) (by rw [show k + (m + 1) = k + 1 + m by omega]; exact hd)
        rwa [show k + (m + 1) = k + 1 + m by omega] at this)
      · rw [app_hp, h]; exact (mem_comm (by omega) (by simpa using h0) hp).symm
      · rw [app_hp, h']

theorem appD_insert_hp {D : Nat → Bool} {i : Nat} {it : It} (hi : D i = false) : ∀ (l : List It) (k : Nat) (s : St), k ≤ i → l[i - k]? = some it →
    (∀ m q, l[m]? = some q → i < k + m → D (k + m) = true → memIndep (nx + i) it.mem (nx + (k + m)) q.mem = true) →
    (appD nx (fun j => D j || Nat.beq j i) k l s).hp = it.mem.app (nx + i) (appD nx D k l s).hp
  | [], _, _, _, h, _ => by simp at h
  | q :: l, k, s, hk, h, hm => by
    simp only [appD]
    by_cases hki : k = i
    · subst hki
      simp at h; subst h
      rw [hi, show Nat.beq k k = true by simp]
      simp only [Bool.or_true, cond_true, cond_false]
      have hext : ∀ (l : List It) (k' : Nat) (s : St), k < k' → appD nx (fun j => D j || Nat.beq j k) k' l s = appD nx D k' l s := by
        intro l
        induction l with
        | nil => intros; rfl
        | cons a l ih =>
          intro k' s hlt
          simp only [appD]
          rw [beq_ne (show k' ≠ k by omega), Bool.or_false, ih _ _ (by omega)]
      rw [hext l (k + 1) _ (by omega)]
      exact appD_push l (k + 1) s.hp _ (app_hp _ _ _) s rfl (by omega) (fun m q' hq hd => by
        have := hm (m + 1) q' (by simpa using hq) (by omega) (by rw [show k + (m + 1) = k + 1 + m by omega]; exact hd)
        rwa [show k + (m + 1) = k + 1 + m by omega] at this)
    · rw [beq_ne hki, Bool.or_false]
      refine appD_insert_hp hi l (k + 1) _ (by omega) ?_ (fun m q' hq hlt hd => by
        have := hm (m + 1) q' (by simpa using hq) (by omega) (by rw [show k + (m + 1) = k + 1 + m by omega]; exact hd)
        rwa [show k + (m + 1) = k + 1 + m by omega] at this)
      have : i - k = (i - (k + 1)) + 1 := by omega
      rw [this] at h; simpa using h

theorem appD_insert {D : Nat → Bool} {i : Nat} {it : It} {l : List It} {s : St} (hi : D i = false) (hl : l[i]? = some it)
    (hu : ∀ (m : Nat) (q : It) (d : Nat), m ≠ i → l[m]? = some q → it.dst = some d → q.dst ≠ some d)
    (hm : ∀ (m : Nat) (q : It), l[m]? = some q → i < m → D m = true → memIndep (nx + i) it.mem (nx + m) q.mem = true) :
    appD nx (fun j => D j || Nat.beq j i) 0 l s = it.app (nx + i) (appD nx D 0 l s) := by
  have h1 : (appD nx (fun j => D j || Nat.beq j i) 0 l s).hp = (it.app (nx + i) (appD nx D 0 l s)).hp := by
    rw [app_hp]
    exact appD_insert_hp hi l 0 s (Nat.zero_le _) (by simpa using hl) (fun m q hq hlt hd => by have := hm m q hq (by omega) (by simpa using hd); simpa using this)
  have h2 : (appD nx (fun j => D j || Nat.beq j i) 0 l s).tm = (it.app (nx + i) (appD nx D 0 l s)).tm := by
    funext t
    rw [app_tm]
    by_cases hd : it.dst = some t
    · rw [if_pos hd]
      exact appD_tm_some l 0 s i it hl hd (by simp) (fun m' q hne hq => hu m' q t hne hq hd)
    · rw [if_neg hd]
      refine appD_tm l 0 s s rfl (fun m q hq hq' => ?_)
      simp only [Nat.zero_add]
      have hne : m ≠ i := fun e => by subst e; rw [hl] at hq; cases hq; exact hd hq'
      rw [beq_ne hne, Bool.or_false]
  have h3 : (appD nx (fun j => D j || Nat.beq j i) 0 l s).n = (it.app (nx + i) (appD nx D 0 l s)).n := by rw [app_n, appD_n, appD_n]
  have h4 : (appD nx (fun j => D j || Nat.beq j i) 0 l s).nx = (it.app (nx + i) (appD nx D 0 l s)).nx := by rw [app_nx, appD_nx, appD_nx]
  have h5 : (appD nx (fun j => D j || Nat.beq j i) 0 l s).df = (it.app (nx + i) (appD nx D 0 l s)).df := by rw [app_df, appD_df, appD_df]
  have h6 : (appD nx (fun j => D j || Nat.beq j i) 0 l s).rd = (it.app (nx + i) (appD nx D 0 l s)).rd := by rw [app_rd, appD_rd, appD_rd]
  cases ha : appD nx (fun j => D j || Nat.beq j i) 0 l s with
  | mk a b c d x y =>
    cases hb : it.app (nx + i) (appD nx D 0 l s) with
    | mk a' b' c' d' x' y' =>
      rw [ha, hb] at h1 h2 h3 h4 h5 h6
      simp only at h1 h2 h3 h4 h5 h6
      subst h1; subst h2; subst h3; subst h4; subst h5; subst h6; rfl
end

section
variable {P : Program} (pu : List (Nat × PureT)) (id0 : Nat)
/-- what an item of a plan says of its operation, in a state -/
def EffIt (s : St) (it : It) : Eff → Prop
  | .val x => it.res = x ∧ it.mem = .no
  | .load id row st col n agg => (∃ b, s.hp id = some (.blk b) ∧ 1 ≤ n ∧ row * st + col + n ≤ b.cs.length ∧ it.mem = .ld id (row * st + col) (row * st + col + n) ∧
      (if agg = true then it.res = .agg ((b.cs.drop (row * st + col)).take n) else b.cs[row * st + col]? = some it.res)) ∨
      ∃ A, s.hp id = some (.arr A) ∧ A.c.size = st ∧ col + n ≤ st ∧ row < A.xs.length ∧ it.mem = .la id ∧
      (if agg = true then it.res = .agg (((enc A.c (getA A.xs row (dflt A.c))).drop col).take n) else (enc A.c (getA A.xs row (dflt A.c)))[col]? = some it.res)
  | .store id row st col vs => (∃ b, s.hp id = some (.blk b) ∧ 1 ≤ vs.length ∧ row * st + col + vs.length ≤ b.cs.length ∧ it.mem = .st id (row * st + col) vs ∧ it.res = .val undef) ∨
      ∃ A x, s.hp id = some (.arr A) ∧ A.c.size = st ∧ col + vs.length ≤ st ∧ row < A.xs.length ∧ dec A.c (setsA (enc A.c (getA A.xs row (dflt A.c))) col vs) = some (x, []) ∧ it.mem = .sa id ⟨A.ty, A.c, setA A.xs row x⟩ ∧ it.res = .val undef
  | .alloc b mk => it.mem = .al b ∧ it.res = mk id0
  | .list ty c xs => it.mem = .aa ⟨ty, c, xs⟩ ∧ it.res = .own id0
  | .idx id st n => ∃ A, s.hp id = some (.arr A) ∧ A.c.size = st ∧ 0 ≤ n ∧ n < A.xs.length ∧ it.mem = .la id ∧ it.res = .ptr id n.toNat st 0
  | .len id => ∃ A, s.hp id = some (.arr A) ∧ it.mem = .la id ∧ it.res = .int .i64 A.xs.length
  | .call f args => ∃ g x ys m c, assoc pu f = some g ∧ (g.flat || noVw g) = true ∧ view1 s.hp g.vw args = some (ys, m) ∧ g.run ys = some (c, x) ∧ it.res = x ∧ ((g.pv = none ∧ c = true ∧ it.mem = lookMem m) ∨ ∃ p, g.pv = some p ∧ it.mem = lookPan m c p)
  | .mapGet id kc vc z k ok => ∃ M j z', s.hp id = some (.mp M) ∧ castL kc M.kc [k] = some [j] ∧ castL vc M.vc [z] = some [z'] ∧ it.mem = .la id ∧ it.res = (bif ok then .tup [encA M.vc ((M.get j).getD z'), .bool (M.get j).isSome] else encA M.vc ((M.get j).getD z'))
  | .mapSet id kc vc k x => ∃ M j y, s.hp id = some (.mp M) ∧ castL kc M.kc [k] = some [j] ∧ castL vc M.vc [x] = some [y] ∧ it.mem = .sm id ⟨M.kc, M.vc, fun i => bif beqD M.kc i j then some y else M.get i, M.ents⟩ ∧ it.res = .val undef
  | .test c e => c = true ∧ EffIt s it e
  | .alt c a b => (c = true ∧ EffIt s it a) ∨ (c = false ∧ EffIt s it b)
  | _ => False
def Runs (ops : Array Oper) (o : Oper) (s : St) : Prop :=
  match o.guard with
  | none => True
  | some (j, want) => ∃ d, (ops[j]?).bind (·.dst) = some d ∧ d < s.n ∧ s.tm d = .bool want
def Skips (ops : Array Oper) (o : Oper) (s : St) : Prop :=
  ∃ j want d, o.guard = some (j, want) ∧ (ops[j]?).bind (·.dst) = some d ∧ d < s.n ∧ (s.tm d = .bool (!want) ∨ ∃ vs, s.tm d = .val (.tuple vs))
def ItemOk (P : Program) (ops : Array Oper) (i : Nat) (it : It) (s : St) : Prop :=
  ∃ o, ops[i]? = some o ∧ it.dst = o.dst ∧ o.dst.getD 0 < s.n ∧ ((Runs ops o s ∧ EffIt pu id0 s it (eff P o.op s.eval)) ∨ (Skips ops o s ∧ it.res = .val undef ∧ it.mem = .no))
end
end V
end Go.Proofs.Ytdblbofagfhlbaa
/- That the symbolic evaluator of the text Ea is sound: a region whose order is open, second part. -/
namespace Go.Proofs.Ytdblbofagfhlbaa
open Go.RowKit
namespace V

section
variable {P : Program} {ρ ρ' : Operand → AV}
theorem map_congr_ops {l : List Operand} (h : ∀ x ∈ l, ρ x = ρ' x) : l.map ρ = l.map ρ' := List.map_congr_left h
theorem eff_congr (o : Op) (h : ∀ x ∈ o.operands, ρ x = ρ' x) : eff P o ρ = eff P o ρ' := by
  cases o <;> simp only [Op.operands, Call.operands] at h <;> first
    | rfl
    | (simp only [eff]; rw [h _ (by simp)]; done)
    | (simp only [eff]; rw [h _ (by simp)]; rfl)
    | skip
  case next x b =>
    cases b with
    | false => rfl
    | true =>
      have h1 := h x (by simp)
      simp only [eff, h1]
  case pick c a b =>
    have h1 := h c (by simp); have h2 := h a (by simp); have h3 := h b (by simp)
    simp only [eff, h1, h2, h3]
  case build t parts =>
    have hp : (parts.toList.map fun p => (p.1, ρ p.2)) = parts.toList.map fun p => (p.1, ρ' p.2) := List.map_congr_left fun p hp => by
      rw [h p.2 (by simp; exact ⟨p.1, by simpa using hp⟩)]
    simp only [eff, hp]
  case buildSlice t len parts =>
    have hp : (parts.toList.map fun p => (p.1, ρ p.2)) = parts.toList.map fun p => (p.1, ρ' p.2) := List.map_congr_left fun p hp => by
      rw [h p.2 (by simp; exact ⟨p.1, by simpa using hp⟩)]
    simp only [eff, hp]
  case store t a v =>
    have h1 := h a (by simp); have h2 := h v (by simp)
    simp only [eff, h1, h2]
  case binOp op t a v ty =>
    have h1 := h a (by simp); have h2 := h v (by simp)
    simp only [eff, h1, h2]
  case indexAddr t a v =>
    have h1 := h a (by simp); have h2 := h v (by simp)
    simp only [eff, h1, h2]
  case makeSlice t a v =>
    have h1 := h a (by simp); have h2 := h v (by simp)
    simp only [eff, h1, h2]
  case index t a v =>
    have h1 := h a (by simp); have h2 := h v (by simp)
    simp only [eff, h1, h2]
  case makeFunc fn first captured =>
    have h1 : first.toList.map ρ = first.toList.map ρ' := map_congr_ops fun x hx => h x (by have hx' := Array.mem_toList_iff.1 hx; simp [hx'])
    have h2 : captured.toList.map ρ = captured.toList.map ρ' := map_congr_ops fun x hx => h x (by have hx' := Array.mem_toList_iff.1 hx; simp [hx'])
    simp only [eff, h1, h2]
  case call c =>
    obtain ⟨callee, args, ts⟩ := c
    have h1 : args.toList.map ρ = args.toList.map ρ' := map_congr_ops fun x hx => h x (by have hx' := Array.mem_toList_iff.1 hx; simp [hx'])
    cases callee with
    | value f =>
      have h2 := h f (by simp)
      simp only [eff, h1, h2]
    | invoke r m => rfl
    | builtin b => simp only [eff, h1]
  case makeMap t r => cases r <;> rfl
  case slice t x lo hi mx =>
    have h1 := h x (by simp)
    have h2 : lo.map ρ = lo.map ρ' := by
      cases lo with
      | none => rfl
      | some y => simp only [Option.map_some]; rw [h y (by simp)]
    have h3 : hi.map ρ = hi.map ρ' := by
      cases hi with
      | none => rfl
      | some y => simp only [Option.map_some]; rw [h y (by simp)]
    simp only [eff, h1, h2, h3]
  case lookup t m k ok =>
    have h1 := h m (by simp); have h2 := h k (by simp)
    simp only [eff, h1, h2]
  case mapEntry t m k =>
    have h1 := h m (by simp); have h2 := h k (by simp)
    simp only [eff, h1, h2]
  case entryStore t m k x =>
    have h1 := h m (by simp); have h2 := h k (by simp); have h3 := h x (by simp)
    simp only [eff, h1, h2, h3]
  case mapUpdate t m k x =>
    have h1 := h m (by simp); have h2 := h k (by simp); have h3 := h x (by simp)
    simp only [eff, h1, h2, h3]
  case typeAssert x t u ok =>
    have h1 := h x (by simp)
    cases ok <;> simp only [eff, h1]
  case defer c =>
    obtain ⟨callee, args, ts⟩ := c
    have h1 : args.toList.map ρ = args.toList.map ρ' := map_congr_ops fun x hx => h x (by have hx' := Array.mem_toList_iff.1 hx; simp [hx'])
    cases callee with
    | value f =>
      have h2 := h f (by simp)
      simp only [eff, h1, h2]
    | invoke r m => rfl
    | builtin b => rfl
end

section
variable {P : Program} {pu : List (Nat × PureT)} {nx : Nat}

theorem arr_of {hp hp' : Heap} {id : Nat} {A : Arr} (h : info hp' id 0 = info hp id 0) (h1 : hp id = some (.arr A)) : hp' id = some (.arr A) := by
  simp only [info, h1, Option.map_some] at h
  cases hb : hp' id with
  | none => simp [hb] at h
  | some b' =>
    cases b' <;> simp only [hb, Option.map_some, Option.some.injEq, Sum.inr.injEq, Sum.inl.injEq, reduceCtorEq] at h
    rw [h]
theorem mp_of {hp hp' : Heap} {id : Nat} {M : Mp} (h : info hp' id 0 = info hp id 0) (h1 : hp id = some (.mp M)) : hp' id = some (.mp M) := by
  simp only [info, h1, Option.map_some] at h
  cases hb : hp' id with
  | none => simp [hb] at h
  | some b' =>
    cases b' <;> simp only [hb, Option.map_some, Option.some.injEq, Sum.inr.injEq, reduceCtorEq] at h
    rw [h]
theorem cells_of {hp hp' : Heap} {id lo hi : Nat} {b : Blk} (hm : ∀ c, lo ≤ c → c < hi → info hp' id c = info hp id c) (hlt : lo < hi) (h1 : hp id = some (.blk b)) : ∃ b', hp' id = some (.blk b') ∧ b'.cs.length = b.cs.length ∧ ∀ c, lo ≤ c → c < hi → b'.cs[c]? = b.cs[c]? := by
  have hget : ∀ c, lo ≤ c → c < hi → ∃ b', hp' id = some (.blk b') ∧ b'.cs.length = b.cs.length ∧ b'.cs[c]? = b.cs[c]? := by
    intro c hc1 hc2
    have := hm c hc1 hc2
    simp only [info, h1, Option.map_some] at this
    cases hb : hp' id with
    | none => simp [hb] at this
    | some b' =>
      cases b' <;> simp only [hb, Option.map_some, Option.some.injEq, Sum.inl.injEq, Prod.mk.injEq, reduceCtorEq] at this
      exact ⟨_, rfl, this.2.1, this.2.2⟩
  obtain ⟨b', k1, k2, _⟩ := hget lo (Nat.le_refl _) hlt
  refine ⟨b', k1, k2, fun c h1 h2 => ?_⟩
  obtain ⟨b2, m1, _, m3⟩ := hget c h1 h2
  rw [k1] at m1; cases m1
  exact m3
theorem take_of {b b' : List AV} {lo n : Nat} (h : ∀ c, lo ≤ c → c < lo + n → b'[c]? = b[c]?) : (b'.drop lo).take n = (b.drop lo).take n := by
  apply List.ext_getElem?
  intro j
  rw [List.getElem?_take, List.getElem?_take]
  split
  · rename_i hj
    rw [List.getElem?_drop, List.getElem?_drop]
    exact h (lo + j) (by omega) (by omega)
  · rfl
/-- what a view looks at -/
theorem view1_cases {hp : Heap} : ∀ {vs : List Vw} {xs ys : List AV} {m : Option (Nat × Nat × Nat)}, view1 hp vs xs = some (ys, m) →
    (m = none ∧ ys = xs ∧ ∀ hp', view1 hp' vs xs = some (ys, none)) ∨ ∃ id lo hi b, m = some (id, lo, hi) ∧ lo < hi ∧ hi ≤ b.cs.length ∧ hp id = some (.blk b) ∧ ∀ hp' b', hp' id = some (.blk b') → b'.cs.length = b.cs.length → (b'.cs.drop lo).take (hi - lo) = (b.cs.drop lo).take (hi - lo) → view1 hp' vs xs = some (ys, m)
  | [], xs, ys, m, h => by
    simp only [view1, Option.some.injEq, Prod.mk.injEq] at h
    obtain ⟨rfl, rfl⟩ := h
    exact .inl ⟨rfl, rfl, fun _ => rfl⟩
  | v :: vs, [], ys, m, h => by
    have he : ∀ hp' : Heap, view1 hp' (v :: vs) [] = some ([], none) := fun hp' => by rcases v with (_ | _) | _ <;> rfl
    rw [he] at h
    simp only [Option.some.injEq, Prod.mk.injEq] at h
    obtain ⟨rfl, rfl⟩ := h
    exact .inl ⟨rfl, rfl, he⟩
  | .cl _ :: vs, x :: xs, ys, m, h => by
    simp only [view1] at h
    split at h <;> try (cases h; done)
    rename_i ys' m' h'
    simp only [Option.some.injEq, Prod.mk.injEq] at h
    obtain ⟨rfl, rfl⟩ := h
    rcases view1_cases h' with ⟨rfl, rfl, k⟩ | ⟨id, lo, hi, b, e1, e2, e3, e4, e5⟩
    · exact .inl ⟨rfl, rfl, fun hp' => by simp only [view1, k hp']⟩
    · exact .inr ⟨id, lo, hi, b, e1, e2, e3, e4, fun hp' b' f1 f2 f3 => by simp only [view1, e5 hp' b' f1 f2 f3]⟩
  | .one none :: vs, x :: xs, ys, m, h => by
    simp only [view1] at h
    split at h <;> try (cases h; done)
    rename_i ys' m' h'
    simp only [Option.some.injEq, Prod.mk.injEq] at h
    obtain ⟨rfl, rfl⟩ := h
    rcases view1_cases h' with ⟨rfl, rfl, k⟩ | ⟨id, lo, hi, b, e1, e2, e3, e4, e5⟩
    · exact .inl ⟨rfl, rfl, fun hp' => by simp only [view1, k hp']⟩
    · exact .inr ⟨id, lo, hi, b, e1, e2, e3, e4, fun hp' b' f1 f2 f3 => by simp only [view1, e5 hp' b' f1 f2 f3]⟩
  | .one (some (c, o)) :: vs, x :: xs, ys, m, h => by
    have pass : ∀ (hx : ∀ hp', view1 hp' (.one (some (c, o)) :: vs) (x :: xs) = match view1 hp' vs xs with | some (ys, m) => some (x :: ys, m) | none => none),
        (m = none ∧ ys = x :: xs ∧ ∀ hp', view1 hp' (.one (some (c, o)) :: vs) (x :: xs) = some (ys, none)) ∨ ∃ id lo hi b, m = some (id, lo, hi) ∧ lo < hi ∧ hi ≤ b.cs.length ∧ hp id = some (.blk b) ∧ ∀ hp' b', hp' id = some (.blk b') → b'.cs.length = b.cs.length → (b'.cs.drop lo).take (hi - lo) = (b.cs.drop lo).take (hi - lo) → view1 hp' (.one (some (c, o)) :: vs) (x :: xs) = some (ys, m) := by
      intro hx
      rw [hx] at h
      split at h <;> try (cases h; done)
      rename_i ys' m' h'
      simp only [Option.some.injEq, Prod.mk.injEq] at h
      obtain ⟨rfl, rfl⟩ := h
      rcases view1_cases h' with ⟨rfl, rfl, k⟩ | ⟨id, lo, hi, b, e1, e2, e3, e4, e5⟩
      · exact .inl ⟨rfl, rfl, fun hp' => by rw [hx, k hp']⟩
      · exact .inr ⟨id, lo, hi, b, e1, e2, e3, e4, fun hp' b' f1 f2 f3 => by rw [hx, e5 hp' b' f1 f2 f3]⟩
    cases x with
    | ptr id row st col =>
      simp only [view1] at h
      split at h <;> try (cases h; done)
      rename_i b ys' hb h'
      cases hl : (Nat.ble 1 c.size && (Nat.ble o (row * st + col) && Nat.ble (row * st + col - o + c.size) (lenA b.cs))) with
      | false => rw [hl] at h; cases h
      | true =>
        rw [hl, cond_true] at h
        have hl' := hl
        simp only [Bool.and_eq_true, Nat.ble_eq, lenA_eq] at hl'
        split at h <;> try (cases h; done)
        rename_i y hy
        simp only [Option.some.injEq, Prod.mk.injEq] at h
        obtain ⟨rfl, rfl⟩ := h
        refine .inr ⟨id, _, _, b, rfl, by omega, hl'.2.2, hb, fun hp' b' f1 f2 f3 => ?_⟩
        have hw : view1 hp' vs xs = some (ys', none) := by
          rcases view1_cases h' with ⟨_, _, k⟩ | ⟨_, _, _, _, e1, _⟩
          · exact k hp'
          · cases e1
        rw [show row * st + col - o + c.size - (row * st + col - o) = c.size by omega] at f3
        simp only [takeA_eq, dropA_eq, lenA_eq] at hy hl ⊢
        simp only [view1, f1, hw, takeA_eq, dropA_eq, lenA_eq, f2, hl, cond_true, f3, hy]
    | _ => exact pass (fun _ => rfl)
theorem effIt_transport {id0 : Nat} {s s' : St} {it : It} (hm : match it.mem with
      | .ld id lo hi => ∀ c, lo ≤ c → c < hi → info s'.hp id c = info s.hp id c
      | .lp id lo hi _ _ => ∀ c, lo ≤ c → c < hi → info s'.hp id c = info s.hp id c
      | .st id lo vs => ∀ c, lo ≤ c → c < lo + vs.length → info s'.hp id c = info s.hp id c
      | .la id => info s'.hp id 0 = info s.hp id 0
      | .sa id _ => info s'.hp id 0 = info s.hp id 0
      | .sm id _ => info s'.hp id 0 = info s.hp id 0
      | _ => True) : ∀ (e : Eff), EffIt pu id0 s it e → EffIt pu id0 s' it e
  | .val x, h => h
  | .load id row st col n agg, h => by
    simp only [EffIt] at h ⊢
    rcases h with ⟨b, h1, h2, h3, h4, h5⟩ | ⟨A, h1, h2⟩
    case inr =>
      rw [h2.2.2.2.1] at hm
      exact .inr ⟨A, arr_of hm h1, h2⟩
    left
    rw [h4] at hm
    simp only at hm
    have hget : ∀ c, row * st + col ≤ c → c < row * st + col + n → ∃ b', s'.hp id = some (.blk b') ∧ b'.cs.length = b.cs.length ∧ b'.cs[c]? = b.cs[c]? := by
      intro c hc1 hc2
      have := hm c hc1 hc2
      simp only [info, h1, Option.map_some] at this
      cases hb : s'.hp id with
      | none => simp [hb] at this
      | some b' =>
        cases b' <;> simp only [hb, Option.map_some, Option.some.injEq, Sum.inl.injEq, Prod.mk.injEq, reduceCtorEq] at this
        exact ⟨_, rfl, this.2.1, this.2.2⟩
    obtain ⟨b', k1, k2, k3⟩ := hget (row * st + col) (Nat.le_refl _) (by omega)
    refine ⟨b', k1, h2, by omega, h4, ?_⟩
    cases agg with
    | true =>
      simp only [if_true] at h5 ⊢
      rw [h5]
      congr 1
      apply List.ext_getElem?
      intro j
      rw [List.getElem?_take, List.getElem?_take]
      split
      · rename_i hj
        rw [List.getElem?_drop, List.getElem?_drop]
        obtain ⟨b2, m1, m2, m3⟩ := hget (row * st + col + j) (by omega) (by omega)
        rw [k1] at m1; cases m1
        exact m3.symm
      · rfl
    | false =>
      simp only [Bool.false_eq_true, if_false] at h5 ⊢
      rw [k3, h5]
  | .store id row st col vs, h => by
    simp only [EffIt] at h ⊢
    rcases h with ⟨b, h1, h3, h4, h5, h6⟩ | ⟨A, x, h1, h2⟩
    case inr =>
      rw [h2.2.2.2.2.1] at hm
      exact .inr ⟨A, x, arr_of hm h1, h2⟩
    left
    rw [h5] at hm
    simp only at hm
    have := hm (row * st + col) (Nat.le_refl _) (by omega)
    simp only [info, h1, Option.map_some] at this
    cases hb : s'.hp id with
    | none => simp [hb] at this
    | some b' =>
      cases b' <;> simp only [hb, Option.map_some, Option.some.injEq, Sum.inl.injEq, Prod.mk.injEq, reduceCtorEq] at this
      exact ⟨_, rfl, h3, by rw [this.2.1]; exact h4, h5, h6⟩
  | .alloc b mk, h => h
  | .idx id st n, h => by
    simp only [EffIt] at h ⊢
    obtain ⟨A, h1, h2⟩ := h
    rw [h2.2.2.2.1] at hm
    exact ⟨A, arr_of hm h1, h2⟩
  | .len id, h => by
    simp only [EffIt] at h ⊢
    obtain ⟨A, h1, h2⟩ := h
    rw [h2.1] at hm
    exact ⟨A, arr_of hm h1, h2⟩
  | .call f args, h => by
    simp only [EffIt] at h ⊢
    obtain ⟨g, x, ys, m, c, h1, h2, h3, h4, h5, h6⟩ := h
    refine ⟨g, x, ys, m, c, h1, h2, ?_, h4, h5, h6⟩
    rcases view1_cases h3 with ⟨rfl, rfl, k⟩ | ⟨id, lo, hi, b, rfl, e2, e3, e4, e5⟩
    · exact k _
    · have hm' : ∀ c, lo ≤ c → c < hi → info s'.hp id c = info s.hp id c := by
        rcases h6 with ⟨_, _, h6⟩ | ⟨p, _, h6⟩
        · rw [h6] at hm
          simpa only [lookMem] using hm
        · rw [h6] at hm
          simpa only [lookPan] using hm
      obtain ⟨b', k1, k2, k3⟩ := cells_of hm' e2 e4
      exact e5 _ b' k1 k2 (take_of fun c hc1 hc2 => k3 c hc1 (by omega))
  | .mapGet id kc vc z k ok, h => by
    simp only [EffIt] at h ⊢
    obtain ⟨M, j, z', h1, h2, h3, h4, h5⟩ := h
    rw [h4] at hm
    exact ⟨M, j, z', mp_of hm h1, h2, h3, h4, h5⟩
  | .mapSet id kc vc k x, h => by
    simp only [EffIt] at h ⊢
    obtain ⟨M, j, z', h1, h2, h3, h4, h5⟩ := h
    rw [h4] at hm
    exact ⟨M, j, z', mp_of hm h1, h2, h3, h4, h5⟩
  | .test c e, h => by
    simp only [EffIt] at h ⊢
    exact ⟨h.1, effIt_transport hm e h.2⟩
  | .alt c a b, h => by
    simp only [EffIt] at h ⊢
    exact h.imp (fun h => ⟨h.1, effIt_transport hm a h.2⟩) fun h => ⟨h.1, effIt_transport hm b h.2⟩
  | .list .., h => h
  | .app .., h => h
  | .round .., h => h
  | .dfr _, h => h
  | .panic _, h => h
  | .mapNew .., h => h
  | .mapDel .., h => h
  | .mapEnt .., h => h
  | .entSet .., h => h
  | .iter _, h => h
  | .nxt _, h => h
  | .trunc .., h => h
  | .bad, h => h

theorem item_transport {ops : Array Oper} {id0 i : Nat} {it : It} {s s' : St} (h : ItemOk pu id0 P ops i it s) (hn : s'.n = s.n) (ht : ∀ o, ops[i]? = some o → ∀ t ∈ looks ops o, s'.tm t = s.tm t)
    (hm : match it.mem with
      | .ld id lo hi => ∀ c, lo ≤ c → c < hi → info s'.hp id c = info s.hp id c
      | .lp id lo hi _ _ => ∀ c, lo ≤ c → c < hi → info s'.hp id c = info s.hp id c
      | .st id lo vs => ∀ c, lo ≤ c → c < lo + vs.length → info s'.hp id c = info s.hp id c
      | .la id => info s'.hp id 0 = info s.hp id 0
      | .sa id _ => info s'.hp id 0 = info s.hp id 0
      | .sm id _ => info s'.hp id 0 = info s.hp id 0
      | _ => True) : ItemOk pu id0 P ops i it s' := by
  obtain ⟨o, h1, h2, h3, h4⟩ := h
  have ht' := ht o h1
  have hev : ∀ x ∈ o.op.operands, s'.eval x = s.eval x := by
    intro x hx
    cases x with
    | tmp t => exact ht' t (by simp only [looks, List.mem_append, List.mem_filterMap]; exact .inl ⟨.tmp t, Array.mem_toList_iff.2 hx, rfl⟩)
    | _ => rfl
  have hgd : ∀ j want d, o.guard = some (j, want) → (ops[j]?).bind (·.dst) = some d → s'.tm d = s.tm d := by
    intro j want d hg hd
    exact ht' d (by simp only [looks, hg, hd, List.mem_append]; exact .inr (by simp))
  refine ⟨o, h1, h2, by rw [hn]; exact h3, ?_⟩
  rcases h4 with ⟨hr, he⟩ | ⟨hs, hres, hmem⟩
  · left
    refine ⟨?_, ?_⟩
    · unfold Runs at hr ⊢
      cases hg : o.guard with
      | none => trivial
      | some g =>
        obtain ⟨j, want⟩ := g
        rw [hg] at hr
        obtain ⟨d, k1, k2, k3⟩ := hr
        exact ⟨d, k1, by rw [hn]; exact k2, by rw [hgd j want d hg k1]; exact k3⟩
    · rw [eff_congr (P := P) o.op hev]
      exact effIt_transport hm _ he
  · right
    refine ⟨?_, hres, hmem⟩
    obtain ⟨j, want, d, k1, k2, k3, k4⟩ := hs
    refine ⟨j, want, d, k1, k2, by rw [hn]; exact k3, ?_⟩
    rw [hgd j want d k1 k2]; exact k4

/-- a new block at a number that is free -/
theorem HRel.allocAt {B : Nat} {σ : Env} {hp : Heap} {m : Nat} {w : World} (h : HRel B σ hp m w) (hB : B ≤ w.heap.size) {id : Nat} (hid : σ id = none) (hlt : id < m) {b : Blk} {us : List Value} (hu : RepL σ b.cs us) :
    ∃ τ, Ext σ τ ∧ (∀ j, j ≠ id → τ j = σ j ∧ τ.sv j = σ.sv j) ∧ τ id = some w.heap.size ∧ HRel B τ (upd hp id (some (.blk b))) m (w.alloc (.cells us.toArray b.ty)) := by
  have he : Ext σ { σ with at_ := upd σ.at_ id (some w.heap.size) } := ⟨fun i n hi => by
    show upd σ.at_ id _ i = _
    rw [upd_other _ _ (fun e => by rw [e, hid] at hi; cases hi)]; exact hi, fun _ _ _ h => h, fun _ _ h => h, rfl, rfl, rfl⟩
  have hs : (w.alloc (.cells us.toArray b.ty)).heap.size = w.heap.size + 1 := by simp
  refine ⟨_, he, fun j hj => ⟨upd_other _ _ hj, rfl⟩, upd_same _ _ _, ?_⟩
  refine h.putOb he rfl (fun _ _ h => h) hlt (Nat.le_refl _) (fun j hj => upd_other _ _ hj) (fun _ _ => rfl) (by omega) ?_ ?_ ?_ ?_ ?_
  · intro j n _ _ hn; exact Below.heap_alloc _ _ _ (h.bound j n hn)
  · intro n oo v hv; exact Below.heap_alloc _ _ _ (mem_old h.mem hv)
  · intro n hn; exact Below.heap_alloc _ _ _ (kp_lt h.kp hn)
  · exact ⟨w.heap.size, us, upd_same _ _ _, by show (w.heap.push _)[w.heap.size]? = _; simp, hu.mono he, hB⟩
  · intro n hn
    have : n = w.heap.size := by
      have e : upd σ.at_ id (some w.heap.size) id = some w.heap.size := upd_same _ _ _
      have hn' : upd σ.at_ id (some w.heap.size) id = some n := hn
      rw [e] at hn'; cases hn'; rfl
    subst this
    refine ⟨by omega, fun j _ _ hj => ?_, mem_new h.mem (Nat.le_refl _), kp_new h.kp (Nat.le_refl _)⟩
    exact absurd (h.bound j _ hj) (Nat.lt_irrefl _)

/-- a new object at a number that is free -/
theorem HRel.addAt {B : Nat} {σ : Env} {hp : Heap} {m : Nat} {w : World} (h : HRel B σ hp m w) {id : Nat} (f1 : σ id = none) (f2 : σ.sv id = none) (hlt : id < m) {obj : Obj} {o : Ob} {sv : Option Value}
    (hob : ∀ τ, Ext σ τ → τ.mem = σ.mem → τ id = some w.heap.size → τ.sv id = sv → ObRel B τ (w.alloc obj) id o) :
    ∃ τ, Ext σ τ ∧ (∀ j, j ≠ id → τ j = σ j ∧ τ.sv j = σ.sv j) ∧ τ id = some w.heap.size ∧ τ.sv id = sv ∧ HRel B τ (upd hp id (some o)) m (w.alloc obj) := by
  have he : Ext σ (σ.add id (some w.heap.size) sv) := Env.add_ext f1 f2
  have hs : (w.alloc obj).heap.size = w.heap.size + 1 := by simp
  refine ⟨_, he, fun j hj => ⟨upd_other _ _ hj, upd_other _ _ hj⟩, upd_same _ _ _, upd_same _ _ _, ?_⟩
  refine h.putOb he rfl (fun _ _ h => h) hlt (Nat.le_refl _) (fun j hj => upd_other _ _ hj) (fun j hj => upd_other _ _ hj) (by omega) ?_ ?_ ?_ (hob _ he rfl (upd_same _ _ _) (upd_same _ _ _)) ?_
  · intro j n _ _ hn; exact Below.heap_alloc _ _ _ (h.bound j n hn)
  · intro n oo v hv; exact Below.heap_alloc _ _ _ (mem_old h.mem hv)
  · intro n hn; exact Below.heap_alloc _ _ _ (kp_lt h.kp hn)
  · intro n hn
    have : n = w.heap.size := by
      have e : (σ.add id (some w.heap.size) sv) id = some w.heap.size := upd_same _ _ _
      rw [e] at hn; cases hn; rfl
    subst this
    refine ⟨by omega, fun j _ _ hj => ?_, mem_new h.mem (Nat.le_refl _), kp_new h.kp (Nat.le_refl _)⟩
    exact absurd (h.bound j _ hj) (Nat.lt_irrefl _)

/-- cells that stay, with those of some lists of the call's own -/
noncomputable def frozen (σ : Env) (hp : Heap) (ids : List Nat) (w : World) (b o : Nat) : Option Value :=
  if ∃ id ∈ ids, hp id ≠ none ∧ σ id = some b then w.cell? ⟨b, o, none⟩ else σ.mem b o
theorem frozen_ok {B : Nat} {σ : Env} {hp : Heap} {nx : Nat} {w : World} (h : HRel B σ hp nx w) (ids : List Nat) : MemOk (frozen σ hp ids w) w := by
  intro b o v hv
  unfold frozen at hv
  split at hv
  · exact hv
  · exact h.mem b o v hv
theorem frozen_ge {B : Nat} {σ : Env} {hp : Heap} {nx : Nat} {w : World} (h : HRel B σ hp nx w) (ids : List Nat) : ∀ b o v, σ.mem b o = some v → frozen σ hp ids w b o = some v := by
  intro b o v hv
  unfold frozen
  split
  · exact h.mem b o v hv
  · exact hv
theorem view1_rep {B : Nat} {σ : Env} {hp : Heap} {nx : Nat} {w : World} (h : HRel B σ hp nx w) {vs : List Vw} {xs ys : List AV} {m : Option (Nat × Nat × Nat)} {us : List Value} (hu : RepL σ xs us) (hv : view1 hp vs xs = some (ys, m)) : ∃ ids, RepL { σ with mem := frozen σ hp ids w } ys us := by
  have key : ∀ (ids : List Nat), (∀ id lo hi, m = some (id, lo, hi) → id ∈ ids) → RepL { σ with mem := frozen σ hp ids w } ys us := by
    intro ids
    have hext : Ext σ { σ with mem := frozen σ hp ids w } := ⟨fun _ _ h => h, frozen_ge h ids, fun _ _ h => h, rfl, rfl, rfl⟩
    induction vs generalizing xs ys us m with
    | nil =>
      intro _
      simp only [view1, Option.some.injEq, Prod.mk.injEq] at hv
      obtain ⟨rfl, _⟩ := hv
      exact hu.mono hext
    | cons v vs ih =>
      intro hm
      cases xs with
      | nil =>
        have he : view1 hp (v :: vs) [] = some ([], none) := by rcases v with (_ | _) | _ <;> rfl
        rw [he] at hv
        simp only [Option.some.injEq, Prod.mk.injEq] at hv
        obtain ⟨rfl, _⟩ := hv
        exact hu.mono hext
      | cons x xs =>
        simp only [RepL] at hu
        obtain ⟨u, us', rfl, k1, k2⟩ := hu
        have pass : ∀ {ys' m'}, view1 hp vs xs = some (ys', m') → ys = x :: ys' → m = m' → RepL { σ with mem := frozen σ hp ids w } ys (u :: us') := by
          intro ys' m' e1 e2 e3
          subst e2; subst e3
          simp only [RepL]
          exact ⟨u, us', rfl, k1.mono hext, ih k2 e1 hm⟩
        rcases v with (_ | ⟨c, o⟩) | cvs
        · simp only [view1] at hv
          split at hv <;> try (cases hv; done)
          rename_i ys' m' h'
          simp only [Option.some.injEq, Prod.mk.injEq] at hv
          exact pass h' hv.1.symm hv.2.symm
        rotate_left
        · simp only [view1] at hv
          split at hv <;> try (cases hv; done)
          rename_i ys' m' h'
          simp only [Option.some.injEq, Prod.mk.injEq] at hv
          exact pass h' hv.1.symm hv.2.symm
        · skip
          cases x with
          | ptr id row st col =>
            simp only [view1] at hv
            split at hv <;> try (cases hv; done)
            rename_i b ys' hb h'
            cases hl : (Nat.ble 1 c.size && (Nat.ble o (row * st + col) && Nat.ble (row * st + col - o + c.size) (lenA b.cs))) with
            | false => rw [hl] at hv; cases hv
            | true =>
              rw [hl, cond_true] at hv
              simp only [Bool.and_eq_true, Nat.ble_eq, lenA_eq] at hl
              split at hv <;> try (cases hv; done)
              rename_i y hy
              simp only [Option.some.injEq, Prod.mk.injEq] at hv
              obtain ⟨rfl, rfl⟩ := hv
              simp only [RepL]
              refine ⟨u, us', rfl, ?_, ih k2 h' (by simp)⟩
              obtain ⟨n, vs', h1, h2, h3, h4⟩ := h.ob id _ hb
              simp only [Rep] at k1
              obtain ⟨n', hn', rfl⟩ := k1
              rw [h1] at hn'; cases hn'
              simp only [takeA_eq, dropA_eq] at hy
              have hro := ((h3.drop (row * st + col - o)).take c.size).mono hext
              have hd := dec_all hy hro
              simp only [Rep]
              refine ⟨n, row * st + col - o, _, ?_, fun j u hju => ?_, hd⟩
              · rw [show row * st + col - o + o = row * st + col by omega]
              · show frozen σ hp ids w n (row * st + col - o + j) = some u
                unfold frozen
                rw [if_pos ⟨id, hm _ _ _ rfl, by rw [hb]; simp, h1⟩, cell_of_row w n _ vs'.toArray b.ty (0, 0) h2]
                rw [List.getElem?_take] at hju
                split at hju
                · rw [List.getElem?_drop] at hju; simpa using hju
                · simp at hju
          | _ =>
            simp only [view1] at hv
            split at hv <;> try (cases hv; done)
            rename_i ys' m' h'
            simp only [Option.some.injEq, Prod.mk.injEq] at hv
            exact pass h' hv.1.symm hv.2.symm
  cases m with
  | none => exact ⟨[], key [] (by simp)⟩
  | some x => exact ⟨[x.1], key [x.1] (by rintro id lo hi e; cases e; simp)⟩
/-- what is owed for a function that panics where its condition fails -/
def PanOk (P : Program) (f : FuncId) (g : PureT) : Prop :=
  ∀ p, g.pv = some p → ∀ (σ : Env) (w : World) (xs : List AV) (us : List Value) (x : AV), (∀ i n, σ i = some n → n < w.heap.size) → MemOk σ.mem w → RepL σ xs us → g.run xs = some (false, x) →
    inK p.2.1 p.2.2 ∧ Calls' P f us.toArray w fun e w' => e = .panicked [{ v := .iface p.1 (.int p.2.1 p.2.2), recovered := false }] ∧ Below w.heap.size w w'
theorem panOk_none {P : Program} {f : FuncId} {g : PureT} (h : g.pv = none) : PanOk P f g := fun p hp => by rw [h] at hp; cases hp
theorem pvA_rep {σ : Env} {p : TypeId × IntKind × Int} (h : inK p.2.1 p.2.2) : Rep σ (pvA p) (.iface p.1 (.int p.2.1 p.2.2)) := by simp only [pvA, Rep]; exact ⟨_, ⟨rfl, h⟩, rfl⟩
def PuOk (P : Program) (pu : List (Nat × PureT)) : Prop := ∀ p ∈ pu, Plain P p.1 ∧ PureOk P p.1 p.2 ∧ PanOk P p.1 p.2
/-- a condition of a call that may panic holds -/
def lpOk : Mem → Prop
  | .lp _ _ _ c _ => c = true
  | _ => True

/-- memory that can no more be turned has grown -/
theorem grown {w0 w w' : World} {σ : Env} {hp : Heap} {nx : Nat} {m' : Nat → Nat → Option Value} (hh : HRel w0.heap.size σ hp nx w) (hb : Below w0.heap.size w0 w) (m1 : MemOk m' w') (m2 : ∀ b o u, σ.mem b o = some u → m' b o = some u) (m3 : ∀ b o u, m' b o = some u → σ.mem b o = some u ∨ w.heap.size ≤ b) (m6 : Below w.heap.size w w') :
    Ext σ { σ with mem := m' } ∧ HRel w0.heap.size { σ with mem := m' } hp nx w' := by
  have he : Ext σ { σ with mem := m' } := ⟨fun _ _ h => h, m2, fun _ _ h => h, rfl, rfl, rfl⟩
  have hb' := hh.below m6
  refine ⟨he, fun j o hj => (hb'.ob j o hj).keep he rfl (fun _ _ => rfl), hh.inj, hh.fresh, hb'.bound, m1, fun i n hi hn o => ?_, fun b o v hv hlt => ?_, hb'.kp.sz, hb'.kp.ok, hb'.kp.sep, fun n o v hv => ?_⟩
  · cases hc : m' n o with
    | none => exact hc
    | some u =>
      rcases m3 n o u hc with k | k
      · rw [hh.sep i n hi hn o] at k; cases k
      · have := hh.bound i n hn; omega
  · rcases m3 b o v hv with k | k
    · exact hh.low b o v k hlt
    · have := hb.size; omega
  · rcases m3 n o v hv with k | k
    · exact hh.kp.mem n o v k
    · exact kp_new hh.kp k
theorem effIt_step (hpu : PuOk P pu) {rd : Bool} {w0 : World} {σ : Env} {s : St} {a : Go.Act} {w : World} {o : Oper} {id0 : Nat} {it : It} {next : Go.Act → World → Prop} {Q : Exit → Go.Act → World → Prop} {r : Result Next}
    (hS : Sat rd w0 σ s a w) (hfree : σ id0 = none ∧ σ.sv id0 = none) (hid : id0 < s.nx) (hdst : it.dst = o.dst) (hd : o.dst.getD 0 < s.n)
    (hP : ∀ w' (p : TypeId × IntKind × Int), (∃ id lo hi, it.mem = .lp id lo hi false p) → inK p.2.1 p.2.2 → Sat rd w0 σ s a w' → Q (.panic [{ v := .iface p.1 (.int p.2.1 p.2.2), recovered := false }]) a w')
    (hK' : ∀ τ a' w', Ext σ τ → (∀ j, j ≠ id0 → τ j = σ j ∧ τ.sv j = σ.sv j) → lpOk it.mem → Sat rd w0 τ (it.app id0 s) a' w' → next a' w') : ∀ (e : Eff), AOk P σ w r e → EffIt pu id0 s it e → Oper.uponX P rd o a next Q r
  | .val x, he, h => by
    simp only [AOk] at he
    obtain ⟨v, rfl, hv⟩ := he
    simp only [EffIt] at h
    have hK := fun τ a' w' e1 e2 e3 => hK' τ a' w' e1 e2 (show lpOk it.mem by rw [h.2]; trivial) e3
    refine hK σ _ _ (Ext.refl _) (fun _ _ => ⟨rfl, rfl⟩) ?_
    have : it.app id0 s = s.put o.dst x := by simp only [It.app, h.2, Mem.app, h.1, hdst]
    rw [this]; exact hS.put hd hv
  | .load id row st col n agg, he, h => by
    simp only [AOk] at he
    obtain ⟨hn, he⟩ := he
    simp only [EffIt] at h
    rcases h with ⟨b, hb, h0, hl, hmem, hres⟩ | ⟨A, hA, hl1, hl2, hr', hmem, hres⟩
    case inr =>
      have hK := fun τ a' w' e1 e2 e3 => hK' τ a' w' e1 e2 (show lpOk it.mem by rw [hmem]; trivial) e3
      subst hl1
      obtain ⟨v, us, h1, h2, h3, h4, h5⟩ := hS.h.ob id _ hA
      rcases h2.2 with ⟨_, k⟩ | ⟨g, cap, cur, rfl, k2, k3, k4, k5, k6, k7⟩
      · omega
      have hg := (h5 g).1 rfl
      have hul := LR.len (fun x vs => RepD.len A.c x vs) h3
      have hrow : (row + 1) * A.c.size ≤ A.xs.length * A.c.size := Nat.mul_le_mul_right _ hr'
      rw [Nat.add_mul, Nat.one_mul] at hrow
      have hcl : cur.toList.length = cap * A.c.size := by simpa using k6
      have hxc : A.xs.length * A.c.size ≤ cap * A.c.size := Nat.mul_le_mul_right _ k4
      have hrun := he g A.ty cur.toList hg (by simpa using k3) (by omega)
      have hel := LR.get (fun x vs => RepD.len A.c x vs) row (dflt A.c) h3 hr'
      have hcells : (us.drop (row * A.c.size)).take A.c.size = (cur.toList.drop (row * A.c.size)).take A.c.size := by
        rw [← k7, List.drop_take, List.take_take]
        congr 1; omega
      rw [hcells] at hel
      have hrep := enc_rep (σ := σ) _ _ _ hel
      have hdrop : ((cur.toList.drop (row * A.c.size)).take A.c.size).drop col = (cur.toList.drop (row * A.c.size + col)).take (A.c.size - col) := by
        rw [List.drop_take, List.drop_drop]
      rw [hrun]
      refine hK σ _ _ (Ext.refl _) (fun _ _ => ⟨rfl, rfl⟩) ?_
      have : it.app id0 s = s.put o.dst it.res := by simp only [It.app, hmem, Mem.app, hdst]
      rw [this]
      refine hS.put hd ?_
      cases agg with
      | true =>
        simp only [if_true] at hres ⊢
        rw [hres]; simp only [Rep]
        refine ⟨_, (hrep.drop col).take n, ?_⟩
        rw [hdrop, List.take_take, Nat.min_eq_left (by omega)]
      | false =>
        simp only [Bool.false_eq_true, if_false] at hres ⊢
        obtain ⟨v, hv, hr2⟩ := hrep.get hres
        have hv' : cur.toList[row * A.c.size + col]? = some v := by
          rw [List.getElem?_take] at hv
          split at hv
          · rwa [List.getElem?_drop] at hv
          · cases hv
        simp only [List.getD, hv', Option.getD_some]
        exact hr2
    have hK := fun τ a' w' e1 e2 e3 => hK' τ a' w' e1 e2 (show lpOk it.mem by rw [hmem]; trivial) e3
    obtain ⟨m, vs, h1, h2, h3, h4⟩ := hS.h.ob id _ hb
    rw [he m b.ty vs h1 h2 (by rw [← h3.length]; exact hl)]
    refine hK σ _ _ (Ext.refl _) (fun _ _ => ⟨rfl, rfl⟩) ?_
    have : it.app id0 s = s.put o.dst it.res := by simp only [It.app, hmem, Mem.app, hdst]
    rw [this]
    refine hS.put hd ?_
    cases agg with
    | true =>
      simp only [if_true] at hres ⊢
      rw [hres]; simp only [Rep]
      exact ⟨_, (h3.drop _).take _, rfl⟩
    | false =>
      simp only [Bool.false_eq_true, if_false] at hres ⊢
      obtain ⟨v, hv, hr⟩ := h3.get hres
      simp only [List.getD, hv, Option.getD_some]
      exact hr
  | .store id row st col xs, he, h => by
    simp only [AOk] at he
    obtain ⟨us, hu, he⟩ := he
    simp only [EffIt] at h
    rcases h with ⟨b, hb, h0, hl, hmem, hres⟩ | ⟨A, x, hA, hl1, hl2, hr', hx, hmem, hres⟩
    case inr =>
      have hK := fun τ a' w' e1 e2 e3 => hK' τ a' w' e1 e2 (show lpOk it.mem by rw [hmem]; trivial) e3
      subst hl1
      obtain ⟨v, vs, h1, h2, h3, h4, h5⟩ := hS.h.ob id _ hA
      rcases h2.2 with ⟨_, k⟩ | ⟨g, cap, cur, rfl, k2, k3, k4, k5, k6, k7⟩
      · omega
      have hg := (h5 g).1 rfl
      have hul := LR.len (fun x vs => RepD.len A.c x vs) h3
      have hrow : (row + 1) * A.c.size ≤ A.xs.length * A.c.size := Nat.mul_le_mul_right _ hr'
      rw [Nat.add_mul, Nat.one_mul] at hrow
      have hcl : cur.toList.length = cap * A.c.size := by simpa using k6
      have hxc : A.xs.length * A.c.size ≤ cap * A.c.size := Nat.mul_le_mul_right _ k4
      have hxl := hu.length
      have hrun := he g A.ty cur.toList hg (by simpa using k3) (by omega)
      have hel := LR.get (fun x vs => RepD.len A.c x vs) row (dflt A.c) h3 hr'
      have hrep := enc_rep (σ := σ) _ _ _ hel
      have hnew := dec_all hx (setsA_rep xs us col _ _ hrep hu)
      have hset := LR.set (fun x vs => RepD.len A.c x vs) row x h3 hnew hr'
      have hcells : (setsA cur.toList (row * A.c.size + col) us).take (A.xs.length * A.c.size) = setsA vs (row * A.c.size) (setsA ((vs.drop (row * A.c.size)).take A.c.size) col us) := by
        rw [setsA_take _ _ _ _ (by omega), k7]
        have hsplit : vs = vs.take (row * A.c.size) ++ ((vs.drop (row * A.c.size)).take A.c.size ++ vs.drop (row * A.c.size + A.c.size)) := by
          rw [← List.drop_drop, List.take_append_drop, List.take_append_drop]
        have hp1 : (vs.take (row * A.c.size)).length = row * A.c.size := by simp; omega
        have hp2 : ((vs.drop (row * A.c.size)).take A.c.size).length = A.c.size := by simp; omega
        generalize hA1 : vs.take (row * A.c.size) = p at hsplit hp1
        generalize hA2 : (vs.drop (row * A.c.size)).take A.c.size = q at hsplit hp2 ⊢
        generalize vs.drop (row * A.c.size + A.c.size) = t at hsplit
        rw [hsplit, show row * A.c.size + col = p.length + col by omega, setsA_past, show row * A.c.size = p.length + 0 by omega, setsA_past]
        congr 1
        rw [setsA_front _ q t (by rw [setsA_length]), setsA_in q t us col (by omega)]
      rw [hrun]
      have hob : ObRel w0.heap.size σ (w.setRow g (setsA cur.toList (row * A.c.size + col) us).toArray) id (.arr ⟨A.ty, A.c, setA A.xs row x⟩) := by
        refine ⟨_, _, h1, ?_, by rw [setA_eq]; exact hset, h4, h5⟩
        refine ⟨?_, .inr ⟨g, cap, _, ?_, k2, setRow_heap w g _ _ _ _ k3, by simpa [setA_eq] using k4, k5, by simp [setsA_length]; exact hcl, ?_⟩⟩
        · simp only [setA_eq, List.length_set, setsA_length]; exact h2.1
        · simp [setA_eq]
        · simp only [setA_eq, List.length_set]
          exact hcells
      have hh := hS.h.turn (by rw [hA]; simp) hg _ hob
      have hS' : Sat rd w0 σ { s with hp := upd s.hp id (some (.arr ⟨A.ty, A.c, setA A.xs row x⟩)) } a (w.setRow g (setsA cur.toList (row * A.c.size + col) us).toArray) := hS.mono (Ext.refl _) hh (below_setRow hS.bl k2 _)
      refine hK σ _ _ (Ext.refl _) (fun _ _ => ⟨rfl, rfl⟩) ?_
      have : it.app id0 s = ({ s with hp := upd s.hp id (some (.arr ⟨A.ty, A.c, setA A.xs row x⟩)) } : St).put o.dst (.val undef) := by
        simp only [It.app, hmem, Mem.app, hres, hdst]
      rw [this]
      exact hS'.put hd (by simp only [Rep])
    have hK := fun τ a' w' e1 e2 e3 => hK' τ a' w' e1 e2 (show lpOk it.mem by rw [hmem]; trivial) e3
    obtain ⟨m, vs, h1, h2, h3, h4⟩ := hS.h.ob id _ hb
    rw [he m b.ty vs h1 h2 (by rw [← h3.length, ← hu.length]; exact hl)]
    have hob : ObRel w0.heap.size σ (w.setRow m (setsA vs (row * st + col) us).toArray) id (.blk ⟨b.ty, setsA b.cs (row * st + col) xs⟩) :=
      ⟨m, _, h1, setRow_heap w m _ _ _ _ h2, setsA_rep _ _ (row * st + col) _ _ h3 hu, h4⟩
    have hh := hS.h.turn (by rw [hb]; simp) h1 _ hob
    have hS' : Sat rd w0 σ { s with hp := upd s.hp id (some (.blk ⟨b.ty, setsA b.cs (row * st + col) xs⟩)) } a (w.setRow m (setsA vs (row * st + col) us).toArray) :=
      hS.mono (Ext.refl _) hh (below_setRow hS.bl h4 _)
    refine hK σ _ _ (Ext.refl _) (fun _ _ => ⟨rfl, rfl⟩) ?_
    have : it.app id0 s = ({ s with hp := upd s.hp id (some (.blk ⟨b.ty, setsA b.cs (row * st + col) xs⟩)) } : St).put o.dst (.val undef) := by
      simp only [It.app, hmem, Mem.app, hb, hres, hdst]
    rw [this]
    exact hS'.put hd (by simp only [Rep])
  | .alloc b mk, he, h => by
    simp only [AOk] at he
    obtain ⟨us, v, hu, rfl, hv⟩ := he
    simp only [EffIt] at h
    have hK := fun τ a' w' e1 e2 e3 => hK' τ a' w' e1 e2 (show lpOk it.mem by rw [h.1]; trivial) e3
    obtain ⟨τ, e, hoth, hτ, hh⟩ := hS.h.allocAt hS.bl.size hfree.1 hid hu
    have hS' : Sat rd w0 τ { s with hp := upd s.hp id0 (some (.blk b)) } a _ := hS.mono e hh (hS.bl.alloc hS.bl.size _)
    refine hK τ _ _ e hoth ?_
    have : it.app id0 s = ({ s with hp := upd s.hp id0 (some (.blk b)) } : St).put o.dst (mk id0) := by
      simp only [It.app, h.1, Mem.app, h.2, hdst]
    rw [this]
    exact hS'.put hd (hv τ id0 e hτ)
  | .idx id st n, he, h => by
    simp only [AOk] at he
    simp only [EffIt] at h
    obtain ⟨A, hA, hl1, hr1, hr2, hmem, hres⟩ := h
    have hK := fun τ a' w' e1 e2 e3 => hK' τ a' w' e1 e2 (show lpOk it.mem by rw [hmem]; trivial) e3
    subst hl1
    obtain ⟨v, us, h1, h2, h3, h4, h5⟩ := hS.h.ob id _ hA
    rcases h2.2 with ⟨_, k⟩ | ⟨g, cap, cur, rfl, k2, k3⟩
    · omega
    have hg := (h5 g).1 rfl
    rw [he g _ cap h1 hr1 hr2]
    refine hK σ _ _ (Ext.refl _) (fun _ _ => ⟨rfl, rfl⟩) ?_
    have : it.app id0 s = s.put o.dst (.ptr id n.toNat A.c.size 0) := by simp only [It.app, hmem, Mem.app, hres, hdst]
    rw [this]
    exact hS.put hd (by simp only [Rep]; exact ⟨g, hg, rfl⟩)
  | .len id, he, h => by
    simp only [AOk] at he
    simp only [EffIt] at h
    obtain ⟨A, hA, hmem, hres⟩ := h
    have hK := fun τ a' w' e1 e2 e3 => hK' τ a' w' e1 e2 (show lpOk it.mem by rw [hmem]; trivial) e3
    obtain ⟨v, us, h1, h2, h3, h4, h5⟩ := hS.h.ob id _ hA
    have : it.app id0 s = s.put o.dst (.int .i64 A.xs.length) := by simp only [It.app, hmem, Mem.app, hres, hdst]
    rcases h2.2 with ⟨rfl, k⟩ | ⟨g, cap, cur, rfl, k2, k3, k4, k5, _⟩
    · rw [he _ _ _ h1]
      refine hK σ _ _ (Ext.refl _) (fun _ _ => ⟨rfl, rfl⟩) ?_
      rw [this, k]
      exact hS.put hd (rep_int ⟨by simp [minK], by simp [maxK]⟩)
    · rw [he _ _ _ h1]
      simp only [maxLen] at k5
      refine hK σ _ _ (Ext.refl _) (fun _ _ => ⟨rfl, rfl⟩) ?_
      rw [this]
      exact hS.put hd (rep_int ⟨by simp only [minK]; omega, by simp only [maxK]; omega⟩)
  | .call f xs, he, h => by
    simp only [AOk] at he
    obtain ⟨us, hu, rfl⟩ := he
    simp only [EffIt] at h
    obtain ⟨g, x, ys, m, c, hg, hgf, hgv, hgx, hres, hmem⟩ := h
    obtain ⟨h1, h2, h5⟩ := hpu _ (assoc_mem hg)
    rw [h1.run]
    have hmem' : ∀ hp : Heap, it.mem.app id0 hp = hp := by
      intro hp
      rcases hmem with ⟨_, _, hmem⟩ | ⟨p, _, hmem⟩ <;> rw [hmem] <;> cases m <;> rfl
    cases hflat : g.flat with
    | false =>
      rw [hflat, Bool.false_or] at hgf
      have hvw : g.vw = [] ∧ g.pv = none := by
        unfold noVw at hgf
        split at hgf
        · exact ⟨by assumption, by assumption⟩
        · cases hgf
      rw [hvw.1] at hgv
      have hye : ys = xs ∧ m = none := by
        cases xs <;> simp only [view1, Option.some.injEq, Prod.mk.injEq] at hgv <;> exact ⟨hgv.1.symm, hgv.2.symm⟩
      obtain ⟨rfl, rfl⟩ := hye
      rcases hmem with ⟨_, hc, hmem⟩ | ⟨p, hp, _⟩
      · subst hc
        refine (h2 σ w ys us x hS.h.bound hS.h.mem hu hgx).mono ?_
        rintro e w' ⟨v, m', rfl, m1, m2, m3, m4, _, m6⟩
        obtain ⟨he, hh⟩ := grown hS.h hS.bl m1 m2 m3 m6
        have hS' : Sat rd w0 { σ with mem := m' } { s with hp := s.hp, nx := s.nx } a w' := hS.mono he hh (hS.bl.trans (m6.mono hS.bl.size))
        refine hK' _ _ _ he (fun _ _ => ⟨rfl, rfl⟩) (by rw [hmem]; trivial) ?_
        have : it.app id0 s = ({ s with hp := s.hp, nx := s.nx } : St).put o.dst x := by simp only [It.app, hmem', hres, hdst]
        rw [this]
        exact hS'.put hd (Rep.mono3 (σ := ⟨fun _ => none, m', fun _ => none, fun _ _ => none, fun _ => none, 0⟩) (τ := { σ with mem := m' }) ⟨fun i b h => (by cases h), fun _ _ _ h => h, fun i u h => (by cases h)⟩ x v (m4 hflat))
      · rw [hvw.2] at hp; cases hp
    | true =>
    replace hgf := hflat
    obtain ⟨ids, hy⟩ := view1_rep hS.h hu hgv
    have hgo : c = true → lpOk it.mem → Calls' P f us.toArray w fun
      | .returned v, w'' => next (a.put o.dst v) w''
      | .panicked chain, w'' => Q (.panic chain) a w''
      | .outgrown, _ => False := by
      intro hc hl
      subst hc
      refine (h2 { σ with mem := frozen σ s.hp ids w } w ys us x hS.h.bound (frozen_ok hS.h _) hy hgx).mono ?_
      rintro e w' ⟨v, m', rfl, _, _, _, _, hv, hbl⟩
      have hS' : Sat rd w0 σ { s with hp := s.hp, nx := s.nx } a w' := hS.mono (Ext.refl _) (hS.h.below hbl) (hS.bl.trans (hbl.mono hS.bl.size))
      refine hK' σ _ _ (Ext.refl _) (fun _ _ => ⟨rfl, rfl⟩) hl ?_
      have : it.app id0 s = ({ s with hp := s.hp, nx := s.nx } : St).put o.dst x := by simp only [It.app, hmem', hres, hdst]
      rw [this]
      exact hS'.put hd (hv hgf _ (fun _ _ h => h))
    rcases hmem with ⟨_, hc, hmem⟩ | ⟨p, hp, hmem⟩
    · exact hgo hc (by rw [hmem]; cases m <;> trivial)
    · cases c with
      | true => exact hgo rfl (by rw [hmem]; cases m <;> exact rfl)
      | false =>
        obtain ⟨hin, hcalls⟩ := h5 p hp { σ with mem := frozen σ s.hp ids w } w ys us x hS.h.bound (frozen_ok hS.h _) hy hgx
        refine hcalls.mono ?_
        rintro e w' ⟨rfl, hbl⟩
        have hS' : Sat rd w0 σ { s with hp := s.hp, nx := s.nx } a w' := hS.mono (Ext.refl _) (hS.h.below hbl) (hS.bl.trans (hbl.mono hS.bl.size))
        refine hP w' p ?_ hin hS'
        rw [hmem]
        cases m with
        | none => exact ⟨0, 0, 0, rfl⟩
        | some z => exact ⟨z.1, z.2.1, z.2.2, rfl⟩
  | .mapGet id kc vc z k ok, he, h => by
    simp only [AOk] at he
    obtain ⟨b, t, kt, vt, key, zv, e1, e2, e3, e4, e5, e6, rfl⟩ := he
    simp only [EffIt] at h
    obtain ⟨M, k', z', ho, hk, hz, hmem, hres⟩ := h
    have hK := fun τ a' w' e1 e2 e3 => hK' τ a' w' e1 e2 (show lpOk it.mem by rw [hmem]; trivial) e3
    obtain ⟨kc', vc', get, ents⟩ := M
    obtain ⟨hc, rfl⟩ := castL_one hk
    obtain ⟨hv, rfl⟩ := castL_one hz
    simp only at hc hv
    subst hc; subst hv
    obtain ⟨n, es, clock, h1, h2, h3, h4⟩ := hS.h.ob id _ ho
    rw [e1] at h1; cases h1
    obtain ⟨v, v1, v2⟩ := lookup_data (P := P) h2 h3 e2 e3 e4 e5 e6 ok
    simp only [Sem.run_bind, v2, Result.andThen_ok, Sem.run_pure]
    refine hK σ _ _ (Ext.refl _) (fun _ _ => ⟨rfl, rfl⟩) ?_
    have : it.app id0 s = s.put o.dst it.res := by simp only [It.app, hmem, Mem.app, hdst]
    rw [this, hres]
    cases ok with
    | true =>
      simp only [cond_true]
      refine hS.put (v := .tuple #[v, .bool (get k).isSome]) hd ?_
      simp only [Rep, RepL]
      exact ⟨_, ⟨_, _, rfl, v1.rep, _, _, rfl, rfl, rfl⟩, rfl⟩
    | false =>
      simp only [cond_false]
      exact hS.put (v := v) hd v1.rep
  | .mapSet id kc vc k x, he, h => by
    simp only [AOk] at he
    obtain ⟨b, t, kt, vt, key, v, e1, e2, e3, e4, e5, rfl⟩ := he
    simp only [EffIt] at h
    obtain ⟨M, k', z', ho, hk, hz, hmem, hres⟩ := h
    have hK := fun τ a' w' e1 e2 e3 => hK' τ a' w' e1 e2 (show lpOk it.mem by rw [hmem]; trivial) e3
    obtain ⟨kc', vc', get, ents⟩ := M
    obtain ⟨hc, rfl⟩ := castL_one hk
    obtain ⟨hv, rfl⟩ := castL_one hz
    simp only at hc hv
    subst hc; subst hv
    obtain ⟨n, es, clock, h1, h2, h3, h4⟩ := hS.h.ob id _ ho
    rw [e1] at h1; cases h1
    obtain ⟨es', clock', v2, v3⟩ := mapSet_data (P := P) h2 h3 e2 e3 e4 e5
    simp only [Sem.run_bind, v2, Result.andThen_ok, Sem.run_pure]
    have hh := hS.h.turnObj (by rw [ho]; simp) e1 (.map es' clock') (o := .mp _) ⟨b, es', clock', e1, heap_putObj _ h2, v3, h4⟩
    refine hK σ _ _ (Ext.refl _) (fun _ _ => ⟨rfl, rfl⟩) ?_
    have hS' := hS.mono (Ext.refl _) hh (below_putObj hS.bl h4 _)
    have : it.app id0 s = St.put { s with hp := upd s.hp id (some (.mp ⟨kc, vc, fun i => bif beqD kc i k then some x else get i, ents⟩)) } o.dst (.val undef) := by
      simp only [It.app, hmem, Mem.app, hres, hdst]
    rw [this]
    exact hS'.put hd (by simp only [Rep])
  | .test c e, he, h => by
    simp only [AOk] at he
    simp only [EffIt] at h
    exact effIt_step hpu hS hfree hid hdst hd hP hK' e (he h.1) h.2
  | .alt c x y, he, h => by
    simp only [AOk] at he
    simp only [EffIt] at h
    rcases h with h | h
    · exact effIt_step hpu hS hfree hid hdst hd hP hK' x (he.1 h.1) h.2
    · exact effIt_step hpu hS hfree hid hdst hd hP hK' y (he.2 h.1) h.2
  | .list ty c xs, he, h => by
    simp only [AOk] at he
    obtain ⟨us, cap, rfl, h1, h2, h3, h4, h5⟩ := he
    simp only [EffIt] at h
    have hK := fun τ a' w' e1 e2 e3 => hK' τ a' w' e1 e2 (show lpOk it.mem by rw [h.1]; trivial) e3
    obtain ⟨τ, e, hoth, hτ, hsv, hh⟩ := hS.h.addAt hfree.1 hfree.2 hid (obj := .cells us.toArray ty) (o := .arr ⟨ty, c, xs⟩) (sv := some (.slice (some ⟨w.heap.size, 0, none⟩) xs.length cap)) (fun τ e _ k1 k2 =>
      ⟨_, us.take (xs.length * c.size), k2, ⟨by simp only [List.length_take, h1]; exact Nat.min_eq_left (Nat.mul_le_mul_right _ h2), .inr ⟨w.heap.size, cap, us.toArray, rfl, hS.bl.size, by show (w.heap.push _)[w.heap.size]? = _; simp, h2, h3, by simpa using h1, by simp⟩⟩,
        LR.mono (fun x vs => RepD.mono e.2 c x vs) h5, h4, fun n => by simp only [Value.ownBlock]; rw [k1]⟩)
    have hS' : Sat rd w0 τ { s with hp := upd s.hp id0 (some (.arr ⟨ty, c, xs⟩)) } a _ := hS.mono e hh (hS.bl.alloc hS.bl.size _)
    refine hK τ _ _ e hoth ?_
    have : it.app id0 s = ({ s with hp := upd s.hp id0 (some (.arr ⟨ty, c, xs⟩)) } : St).put o.dst (.own id0) := by
      simp only [It.app, h.1, Mem.app, h.2, hdst]
    rw [this]
    exact hS'.put hd (x := .own id0) (by simp only [Rep]; exact ⟨hsv, _, _, _, rfl⟩)
  | .app .., _, h => by simp [EffIt] at h
  | .round .., _, h => by simp [EffIt] at h
  | .dfr _, _, h => by simp [EffIt] at h
  | .panic _, _, h => by simp [EffIt] at h
  | .mapNew .., _, h => by simp [EffIt] at h
  | .mapDel .., _, h => by simp [EffIt] at h
  | .mapEnt .., _, h => by simp [EffIt] at h
  | .entSet .., _, h => by simp [EffIt] at h
  | .iter _, _, h => by simp [EffIt] at h
  | .nxt _, _, h => by simp [EffIt] at h
  | .trunc .., _, h => by simp [EffIt] at h
  | .bad, _, h => by simp [EffIt] at h

theorem item_step (hpu : PuOk P pu) {rd : Bool} {w0 : World} {σ : Env} {s : St} {a : Go.Act} {w : World} {ops : Array Oper} {i id0 : Nat} {it : It} {K : Go.Act → World → Prop} {Q : Exit → Go.Act → World → Prop}
    (hS : Sat rd w0 σ s a w) (hfree : σ id0 = none ∧ σ.sv id0 = none) (hid : id0 < s.nx) (hi : ItemOk pu id0 P ops i it s)
    (hP : ∀ w' (p : TypeId × IntKind × Int), (∃ id lo hi, it.mem = .lp id lo hi false p) → inK p.2.1 p.2.2 → Sat rd w0 σ s a w' → Q (.panic [{ v := .iface p.1 (.int p.2.1 p.2.2), recovered := false }]) a w')
    (hK : ∀ τ a' w', Ext σ τ → (∀ j, j ≠ id0 → τ j = σ j ∧ τ.sv j = σ.sv j) → lpOk it.mem → Sat rd w0 τ (it.app id0 s) a' w' → K a' w') : wpOpX P rd ops Q i K a w := by
  obtain ⟨o, h1, h2, h3, h4⟩ := hi
  unfold wpOpX
  simp only [h1]
  rcases h4 with ⟨hr, he⟩ | ⟨⟨j, want, d, k1, k2, k3, k4⟩, hres, hmem⟩
  · have hw : Region.wanted o (yielded ops a.tmps) = true := by
      unfold Runs at hr
      cases hg : o.guard with
      | none => simp [Region.wanted, hg]
      | some g =>
        obtain ⟨j, want⟩ := g
        rw [hg] at hr
        obtain ⟨d, k1, k2, k3⟩ := hr
        have hy := yielded_of k1 (by rw [hS.n]; exact k2)
        have hrep := hS.tm d
        rw [k3] at hrep; simp only [Rep] at hrep
        rw [hrep] at hy
        simp [Region.wanted, hg, hy]
    rw [if_pos hw]
    exact effIt_step hpu hS hfree hid h2 h3 hP hK _ (eff_ok hS.h.mem hS.eval o) he
  · have hy := yielded_of k2 (by rw [hS.n]; exact k3)
    have hrep := hS.tm d
    have hw : ¬ Region.wanted o (yielded ops a.tmps) = true := by
      rcases k4 with k4 | ⟨vs, k4⟩
      · rw [k4] at hrep; simp only [Rep] at hrep
        rw [hrep] at hy
        simp [Region.wanted, k1, hy]
      · rw [k4] at hrep; simp only [Rep] at hrep
        rw [hrep] at hy
        simp [Region.wanted, k1, hy]
    rw [if_neg hw]
    refine hK σ _ _ (Ext.refl _) (fun _ _ => ⟨rfl, rfl⟩) (by rw [hmem]; trivial) ?_
    have : it.app id0 s = s.put o.dst (.val undef) := by simp only [It.app, hmem, Mem.app, hres, h2]
    rw [this]
    exact hS.put h3 (by simp only [Rep])
end
end V
end Go.Proofs.Ytdblbofagfhlbaa
/- That the symbolic evaluator of the text Ea is sound: a region whose order is open, third part: every order that the edges allow. -/
namespace Go.Proofs.Ytdblbofagfhlbaa
open Go.RowKit
namespace V

section
variable {P : Program} {pu : List (Nat × PureT)} {nx : Nat} {ops : Array Oper}

theorem blt_t {a b : Nat} : Nat.blt a b = true ↔ a < b := by unfold Nat.blt; rw [Nat.ble_eq]; exact Iff.rfl
/-- all operations that have to come before operation j are in D -/
def Pre (ops : Array Oper) (D : Nat → Bool) (j : Nat) : Prop := ∀ o, ops[j]? = some o → ∀ e ∈ o.after, Region.binds .any e = true → D e.on = true
def Closed (ops : Array Oper) (D : Nat → Bool) : Prop := ∀ j, D j = true → Pre ops D j

theorem maskOf_spec {D : Nat → Bool} {acc : List Nat} (hacc : ∀ j m, acc[j]? = some m → D j = true → ∀ i, Nat.testBit m i = true → D i = true) : ∀ (l : List Edge), (∀ e ∈ l, Region.binds .any e = true → D e.on = true) → ∀ i, Nat.testBit (maskOf acc l) i = true → D i = true
  | [], _, i, h => by simp [maskOf] at h
  | e :: l, hl, i, h => by
    simp only [maskOf] at h
    cases hb : Region.binds .any e with
    | false =>
      simp only [hb, cond_false] at h
      exact maskOf_spec hacc l (fun e' he' => hl e' (by simp [he'])) i h
    | true =>
      simp only [hb, cond_true, Nat.testBit_or, Bool.or_eq_true] at h
      have hD := hl e (by simp) hb
      rcases h with (h | h) | h
      · rw [Nat.testBit_two_pow] at h
        have : e.on = i := by simpa using h
        rw [← this]; exact hD
      · rw [nth_eq] at h
        cases hm : acc[e.on]? with
        | none => simp [hm] at h
        | some m => rw [hm] at h; exact hacc e.on m hm hD i h
      · exact maskOf_spec hacc l (fun e' he' => hl e' (by simp [he'])) i h

theorem masks_spec : ∀ (l : List Oper) (acc : List Nat), (∀ k, l[k]? = ops[acc.length + k]?) →
    (∀ j m, acc[j]? = some m → ∀ D, Closed ops D → Pre ops D j → ∀ i, Nat.testBit m i = true → D i = true) →
    (masks l acc).length = acc.length + l.length ∧ ∀ j m, (masks l acc)[j]? = some m → ∀ D, Closed ops D → Pre ops D j → ∀ i, Nat.testBit m i = true → D i = true
  | [], acc, _, hacc => ⟨rfl, hacc⟩
  | o :: l, acc, hl, hacc => by
    simp only [masks]
    have ho : ops[acc.length]? = some o := by have := hl 0; simpa using this.symm
    have ih := masks_spec l (acc ++ [maskOf acc o.after.toList]) (fun k => by
      have := hl (k + 1)
      simp only [List.getElem?_cons_succ] at this
      rw [this]
      congr 1
      simp; omega) ?_
    · exact ⟨by rw [ih.1]; simp; omega, ih.2⟩
    · intro j m hj D hD hpre i hi
      rw [List.getElem?_append] at hj
      split at hj
      · exact hacc j m hj D hD hpre i hi
      · rename_i hlt
        have hj' : j = acc.length := by
          by_cases h0 : j - acc.length = 0
          · omega
          · have : j - acc.length = (j - acc.length - 1) + 1 := by omega
            rw [this] at hj; simp at hj
        subst hj'
        simp at hj
        subst hj
        exact maskOf_spec (fun j m hj hDj => hacc j m hj D hD (hD j hDj)) _ (fun e he hb => hpre o ho e (Array.mem_toList_iff.1 he) hb) i hi

theorem edges_spec : ∀ (l : List Oper) (i : Nat), edgesOk l i = true → ∀ k o, l[k]? = some o → ∀ e ∈ o.after, Region.binds .any e = true → e.on < i + k
  | [], _, _, _, _, h => by simp at h
  | o :: l, i, h, k, o', hk => by
    simp only [edgesOk, Bool.and_eq_true] at h
    cases k with
    | zero =>
      simp at hk; subst hk
      intro e he hb
      have := List.all_eq_true.1 h.1 e (Array.mem_toList_iff.2 he)
      rw [hb] at this
      simpa using blt_t.1 this
    | succ k =>
      intro e he hb
      have := edges_spec l (i + 1) h.2 k o' (by simpa using hk) e he hb
      omega

theorem rowOk_spec {i : Nat} {r : Row} : ∀ (l : List Row) (j : Nat), rowOk nx i r j l = true → ∀ k q, l[k]? = some q → pairOk nx i r (j + k) q = true
  | [], _, _, _, _, h => by simp at h
  | q :: l, j, h, k, q', hk => by
    simp only [rowOk, Bool.and_eq_true] at h
    cases k with
    | zero => simp at hk; subst hk; exact h.1
    | succ k =>
      have := rowOk_spec l (j + 1) h.2 k q' (by simpa using hk)
      rwa [show j + (k + 1) = j + 1 + k by omega]
theorem rowsOk_spec : ∀ (l : List Row) (i : Nat), rowsOk nx i l = true → ∀ a b r q, a < b → l[a]? = some r → l[b]? = some q → pairOk nx (i + a) r (i + b) q = true
  | [], _, _, _, _, _, _, _, h, _ => by simp at h
  | x :: l, i, h, a, b, r, q, hab, ha, hb => by
    simp only [rowsOk, Bool.and_eq_true] at h
    cases b with
    | zero => omega
    | succ b =>
      cases a with
      | zero =>
        simp at ha; subst ha
        have := rowOk_spec l (i + 1) h.1 b q (by simpa using hb)
        rwa [show i + (b + 1) = i + 1 + b by omega]
      | succ a =>
        have := rowsOk_spec l (i + 1) h.2 a b r q (by omega) (by simpa using ha) (by simpa using hb)
        rwa [show i + (a + 1) = i + 1 + a by omega, show i + (b + 1) = i + 1 + b by omega]
theorem rowsOf_get : ∀ (l : List Oper) (is : List It) (ms : List Nat) (k : Nat) (o : Oper) (it : It) (m : Nat), l[k]? = some o → is[k]? = some it → ms[k]? = some m → (rowsOf ops l is ms)[k]? = some ⟨it.dst, looks ops o, it.mem, m⟩
  | [], _, _, _, _, _, _, h, _, _ => by simp at h
  | _ :: _, [], _, _, _, _, _, _, h, _ => by simp at h
  | _ :: _, _ :: _, [], _, _, _, _, _, _, h => by simp at h
  | a :: l, b :: is, c :: ms, k, o, it, m, h1, h2, h3 => by
    cases k with
    | zero => simp at h1 h2 h3; subst h1; subst h2; subst h3; rfl
    | succ k =>
      simp only [rowsOf, List.getElem?_cons_succ]
      exact rowsOf_get l is ms k o it m (by simpa using h1) (by simpa using h2) (by simpa using h3)

/-- a pair of operations that no edge orders leave each other alone -/
structure Apart (nx i : Nat) (r : It) (lr : List Nat) (j : Nat) (q : It) (lq : List Nat) : Prop where
  d1 : ∀ d, r.dst = some d → d ∉ lq
  d2 : ∀ d, q.dst = some d → d ∉ lr
  m : memIndep (nx + i) r.mem (nx + j) q.mem = true

theorem plan_pairs {items : List It} (hp : planOk nx ops items = true) (hlen : items.length ≤ ops.size) {i j : Nat} {r q : It} {o o' : Oper} (hij : i < j) (hr : items[i]? = some r) (hq : items[j]? = some q) (ho : ops[i]? = some o) (ho' : ops[j]? = some o') :
    (∀ d, r.dst = some d → q.dst ≠ some d) ∧ ((∀ D, Closed ops D → Pre ops D j → D i = true) ∨ Apart nx i r (looks ops o) j q (looks ops o')) := by
  simp only [planOk, Bool.and_eq_true] at hp
  have hm := masks_spec (ops := ops) ops.toList [] (fun k => by simp) (fun j m h => by simp at h)
  have hjlt : j < items.length := (List.getElem?_eq_some_iff.1 hq).1
  have hml : (masks ops.toList []).length = ops.size := by rw [hm.1]; simp
  obtain ⟨mi, hmi⟩ : ∃ m, (masks ops.toList [])[i]? = some m := ⟨_, List.getElem?_eq_getElem (by rw [hml]; omega)⟩
  obtain ⟨mj, hmj⟩ : ∃ m, (masks ops.toList [])[j]? = some m := ⟨_, List.getElem?_eq_getElem (by rw [hml]; omega)⟩
  have h1 := rowsOf_get (ops := ops) ops.toList items (masks ops.toList []) i o r mi (by simpa using ho) hr hmi
  have h2 := rowsOf_get (ops := ops) ops.toList items (masks ops.toList []) j o' q mj (by simpa using ho') hq hmj
  have h3 := rowsOk_spec _ 0 hp.2 i j _ _ hij h1 h2
  simp only [Nat.zero_add, pairOk, Bool.and_eq_true, Bool.or_eq_true] at h3
  obtain ⟨h4, h5⟩ := h3
  have hnot : ∀ (d : Option Nat) (l : List Nat), notIn d l = true → ∀ x, d = some x → x ∉ l := by
    intro d l h x hx hmem
    subst hx
    simp only [notIn] at h
    have := List.all_eq_true.1 h x hmem
    simp at this
  refine ⟨fun d hd hd' => ?_, ?_⟩
  · rw [hd, hd'] at h4
    simp [diffD] at h4
  · rcases h5 with h5 | ⟨h5, h6, h7⟩
    · exact .inl fun D hD hpre => hm.2 j mj hmj D hD hpre i h5
    · exact .inr ⟨hnot _ _ h5, hnot _ _ h6, h7⟩

theorem memIndep_writes {a b : Nat} {m k : Mem} (h : memIndep a m b k = true) : match m with
    | .ld id lo hi => ∀ c, lo ≤ c → c < hi → ¬ writes k b id c
    | .lp id lo hi _ _ => ∀ c, lo ≤ c → c < hi → ¬ writes k b id c
    | .st id lo vs => ∀ c, lo ≤ c → c < lo + vs.length → ¬ writes k b id c
    | .la id => ¬ writes k b id 0
    | .sa id _ => ¬ writes k b id 0
    | .sm id _ => ¬ writes k b id 0
    | _ => True := by
  have ap : ∀ {id lo hi id' lo' hi' : Nat}, apartB id lo hi id' lo' hi' = true → id ≠ id' ∨ hi ≤ lo' ∨ hi' ≤ lo := by
    intro id lo hi id' lo' hi' hh
    simp only [apartB, Bool.or_eq_true, Bool.not_eq_true', Nat.ble_eq] at hh
    rcases hh with hh | hh
    · exact .inl (fun e => by subst e; simp at hh)
    · exact .inr hh
  have ne : ∀ {x y : Nat}, (!(Nat.beq x y)) = true → x ≠ y := fun hh e => by subst e; simp at hh
  cases m with
  | no => trivial
  | al _ => trivial
  | aa _ => trivial
  | lp id lo hi c0 p0 =>
    cases k with
    | st id' lo' vs =>
      have := ap (by simpa only [memIndep, Mem.nrm, memIndep0] using h)
      rw [lenA_eq] at this
      rintro c h1 h2 ⟨rfl, h3, h4⟩
      rcases this with h5 | h5 | h5
      · exact h5 rfl
      · omega
      · omega
    | al blk => intro c _ _ e; exact ne (by simpa only [memIndep, Mem.nrm, memIndep0] using h) e.symm
    | aa A => intro c _ _ e; exact ne (by simpa only [memIndep, Mem.nrm, memIndep0] using h) e.symm
    | sa id' A => intro c _ _ e; exact ne (by simpa only [memIndep, Mem.nrm, memIndep0] using h) e
    | sm id' A => intro c _ _ e; exact ne (by simpa only [memIndep, Mem.nrm, memIndep0] using h) e
    | _ => intro c _ _ e; exact e
  | ld id lo hi =>
    cases k with
    | st id' lo' vs =>
      have := ap (by simpa only [memIndep, Mem.nrm, memIndep0] using h)
      rw [lenA_eq] at this
      rintro c h1 h2 ⟨rfl, h3, h4⟩
      rcases this with h5 | h5 | h5
      · exact h5 rfl
      · omega
      · omega
    | al blk => intro c _ _ e; exact ne (by simpa only [memIndep, Mem.nrm, memIndep0] using h) e.symm
    | aa A => intro c _ _ e; exact ne (by simpa only [memIndep, Mem.nrm, memIndep0] using h) e.symm
    | sa id' A => intro c _ _ e; exact ne (by simpa only [memIndep, Mem.nrm, memIndep0] using h) e
    | sm id' A => intro c _ _ e; exact ne (by simpa only [memIndep, Mem.nrm, memIndep0] using h) e
    | _ => intro c _ _ e; exact e
  | st id lo vs =>
    cases k with
    | st id' lo' vs' =>
      have := ap (by simpa only [memIndep, Mem.nrm, memIndep0] using h)
      rw [lenA_eq, lenA_eq] at this
      rintro c h1 h2 ⟨rfl, h3, h4⟩
      rcases this with h5 | h5 | h5
      · exact h5 rfl
      · omega
      · omega
    | al blk => intro c _ _ e; exact ne (by simpa only [memIndep, Mem.nrm, memIndep0] using h) e.symm
    | aa A => intro c _ _ e; exact ne (by simpa only [memIndep, Mem.nrm, memIndep0] using h) e.symm
    | sa id' A => intro c _ _ e; exact ne (by simpa only [memIndep, Mem.nrm, memIndep0] using h) e
    | sm id' A => intro c _ _ e; exact ne (by simpa only [memIndep, Mem.nrm, memIndep0] using h) e
    | _ => intro c _ _ e; exact e
  | la id =>
    cases k with
    | st id' lo' vs' => rintro ⟨e, _⟩; exact ne (by simpa only [memIndep, Mem.nrm, memIndep0] using h) e.symm
    | al blk => intro e; exact ne (by simpa only [memIndep, Mem.nrm, memIndep0] using h) e.symm
    | aa A => intro e; exact ne (by simpa only [memIndep, Mem.nrm, memIndep0] using h) e.symm
    | sa id' A => intro e; exact ne (by simpa only [memIndep, Mem.nrm, memIndep0] using h) e.symm
    | sm id' A => intro e; exact ne (by simpa only [memIndep, Mem.nrm, memIndep0] using h) e
    | _ => intro e; exact e
  | sm id M =>
    cases k with
    | st id' lo' vs' => rintro ⟨e, _⟩; exact ne (by simpa only [memIndep, Mem.nrm, memIndep0] using h) e.symm
    | al blk => intro e; exact ne (by simpa only [memIndep, Mem.nrm, memIndep0] using h) e.symm
    | aa A => intro e; exact ne (by simpa only [memIndep, Mem.nrm, memIndep0] using h) e.symm
    | sa id' A => intro e; exact ne (by simpa only [memIndep, Mem.nrm, memIndep0] using h) e.symm
    | sm id' A' =>
      simp only [memIndep, Mem.nrm, memIndep0, Bool.and_eq_true] at h
      intro e; exact ne h.1 e.symm
    | _ => intro e; exact e
  | sa id A =>
    cases k with
    | st id' lo' vs' => rintro ⟨e, _⟩; exact ne (by simpa only [memIndep, Mem.nrm, memIndep0] using h) e.symm
    | al blk => intro e; exact ne (by simpa only [memIndep, Mem.nrm, memIndep0] using h) e.symm
    | aa A => intro e; exact ne (by simpa only [memIndep, Mem.nrm, memIndep0] using h) e.symm
    | sa id' A' =>
      simp only [memIndep, Mem.nrm, memIndep0, Bool.and_eq_true] at h
      intro e; exact ne h.1 e.symm
    | sm id' A' => intro e; exact ne (by simpa only [memIndep, Mem.nrm, memIndep0] using h) e
    | _ => intro e; exact e
theorem memIndep_symm {a b : Nat} {m k : Mem} (h : memIndep a m b k = true) : memIndep b k a m = true := by
  have sy : ∀ {id lo hi id' lo' hi' : Nat}, apartB id lo hi id' lo' hi' = true → apartB id' lo' hi' id lo hi = true := by
    intro id lo hi id' lo' hi' hh
    simp only [apartB, Bool.or_eq_true, Bool.not_eq_true', Nat.ble_eq] at hh ⊢
    rcases hh with hh | hh | hh
    · left
      cases hb : Nat.beq id' id with
      | false => rfl
      | true =>
        have := Nat.eq_of_beq_eq_true hb
        subst this; simp at hh
    · exact .inr (.inr hh)
    · exact .inr (.inl hh)
  cases m <;> cases k <;> simp only [memIndep, Mem.nrm, memIndep0] at h ⊢ <;> first | exact sy h | exact h | (rw [Bool.and_comm]; exact h)

/-- items that are right in the text's order are right in every state that the edges allow -/
theorem plan_item {items : List It} {s : St} (hp : planOk nx ops items = true) (hlen : items.length ≤ ops.size) {D : Nat → Bool} (hD : Closed ops D) {i : Nat} {it : It} (hit : items[i]? = some it) (hi : D i = false) (hpre : Pre ops D i)
    (hv : ItemOk pu (nx + i) P ops i it (appD nx (fun k => Nat.blt k i) 0 items s)) : ItemOk pu (nx + i) P ops i it (appD nx D 0 items s) := by
  obtain ⟨o, ho⟩ : ∃ o, ops[i]? = some o := by obtain ⟨o, h, _⟩ := hv; exact ⟨o, h⟩
  have ilt : i < items.length := (List.getElem?_eq_some_iff.1 hit).1
  -- whoever stands on another side in the two states is ordered with i by no edge
  have key : ∀ (m : Nat) (q : It), items[m]? = some q → D m ≠ Nat.blt m i → m ≠ i → (∀ d, q.dst = some d → d ∉ looks ops o) ∧ memIndep (nx + i) it.mem (nx + m) q.mem = true := by
    intro m q hq hne hmi
    have mlt : m < items.length := (List.getElem?_eq_some_iff.1 hq).1
    obtain ⟨o', ho'⟩ : ∃ o', ops[m]? = some o' := ⟨_, Array.getElem?_eq_getElem (by omega)⟩
    rcases Nat.lt_or_gt_of_ne hmi with hlt | hgt
    · have hb : Nat.blt m i = true := blt_t.2 hlt
      have hDm : D m = false := by cases h : D m with
        | false => rfl
        | true => rw [h, hb] at hne; exact absurd rfl hne
      rcases (plan_pairs hp hlen hlt hq hit ho' ho).2 with h | h
      · rw [h D hD hpre] at hDm; simp at hDm
      · exact ⟨h.d1, memIndep_symm h.m⟩
    · have hb : Nat.blt m i = false := by
        cases h : Nat.blt m i with
        | false => rfl
        | true => have : m < i := blt_t.1 h
                  omega
      have hDm : D m = true := by cases h : D m with
        | true => rfl
        | false => rw [h, hb] at hne; exact absurd rfl hne
      rcases (plan_pairs hp hlen hgt hit hq ho ho').2 with h | h
      · have := h D hD (hD m hDm); rw [this] at hi; simp at hi
      · exact ⟨h.d2, h.m⟩
  have hbi : Nat.blt i i = false := by
    cases h : Nat.blt i i with
    | false => rfl
    | true => have : i < i := blt_t.1 h
              omega
  refine item_transport hv (by rw [appD_n, appD_n]) ?_ ?_
  · intro o1 ho1 t ht
    rw [ho] at ho1; cases ho1
    refine appD_tm items 0 s s rfl (fun m q hq hd => ?_)
    simp only [Nat.zero_add]
    by_cases hmi : m = i
    · subst hmi; rw [hi, hbi]
    · by_cases hne : D m = Nat.blt m i
      · exact hne
      · exact absurd ht ((key m q hq hne hmi).1 t hd)
  · have hagree : ∀ id c, (∀ m q, items[m]? = some q → memIndep (nx + i) it.mem (nx + m) q.mem = true → ¬ writes q.mem (nx + m) id c) → info (appD nx D 0 items s).hp id c = info (appD nx (fun k => Nat.blt k i) 0 items s).hp id c := by
      intro id c hw
      refine appD_info items 0 s s rfl (fun m q hq hwr => ?_)
      simp only [Nat.zero_add] at hwr ⊢
      by_cases hmi : m = i
      · subst hmi; rw [hi, hbi]
      · by_cases hne : D m = Nat.blt m i
        · exact hne
        · exact absurd hwr (hw m q hq (key m q hq hne hmi).2)
    cases hmem : it.mem with
    | ld id lo hi' =>
      intro c h1 h2
      refine hagree id c (fun m q hq hind => ?_)
      rw [hmem] at hind
      exact memIndep_writes hind c h1 h2
    | lp id lo hi' c0 p0 =>
      intro c h1 h2
      refine hagree id c (fun m q hq hind => ?_)
      rw [hmem] at hind
      exact memIndep_writes hind c h1 h2
    | st id lo vs =>
      intro c h1 h2
      refine hagree id c (fun m q hq hind => ?_)
      rw [hmem] at hind
      exact memIndep_writes hind c h1 h2
    | la id =>
      refine hagree id 0 (fun m q hq hind => ?_)
      rw [hmem] at hind
      exact memIndep_writes hind
    | sa id A =>
      refine hagree id 0 (fun m q hq hind => ?_)
      rw [hmem] at hind
      exact memIndep_writes hind
    | sm id A =>
      refine hagree id 0 (fun m q hq hind => ?_)
      rw [hmem] at hind
      exact memIndep_writes hind
    | _ => trivial

def cnt (n : Nat) (listed : Array Bool) : Nat := (List.range n).countP fun i => !(listed.getD i true)
theorem countP_drop {p q : Nat → Bool} {i : Nat} (hp : p i = true) (hq : q i = false) (h : ∀ j, j ≠ i → q j = p j) : ∀ (l : List Nat), l.Nodup → i ∈ l → l.countP q + 1 = l.countP p
  | [], _, hm => by simp at hm
  | a :: l, hn, hm => by
    rw [List.nodup_cons] at hn
    by_cases ha : a = i
    · subst ha
      rw [List.countP_cons_of_pos hp, List.countP_cons_of_neg (by simp [hq])]
      congr 1
      exact List.countP_congr fun j hj => by rw [h j (fun e => hn.1 (e ▸ hj))]
    · have him : i ∈ l := by rcases List.mem_cons.1 hm with e | e
                             · exact absurd e.symm ha
                             · exact e
      have ih := countP_drop hp hq h l hn.2 him
      by_cases hpa : p a = true
      · rw [List.countP_cons_of_pos hpa, List.countP_cons_of_pos (by rw [h a ha]; exact hpa)]; omega
      · rw [List.countP_cons_of_neg (by rw [h a ha]; exact hpa), List.countP_cons_of_neg hpa]; omega

theorem full_spec {m : Nat} : ∀ (l : List Nat) (k0 : Nat), fullOk m k0 l = true → ∀ k x, l[k]? = some x → m ≤ k0 + k → ∀ j, j < k0 + k → Nat.testBit x j = true
  | [], _, _, _, _, h => by simp at h
  | y :: l, k0, h, k, x, hk => by
    simp only [fullOk, Bool.and_eq_true] at h
    cases k with
    | zero =>
      simp at hk; subst hk
      intro hm j hj
      have hb : Nat.ble m k0 = true := by simpa using hm
      rw [hb, cond_true] at h
      exact List.all_eq_true.1 h.1 j (List.mem_range.2 (by omega))
    | succ k =>
      intro hm j hj
      exact full_spec l (k0 + 1) h.2 k x (by simpa using hk) (by omega) j (by omega)
/-- from a number on each operation comes after all before it -/
def Full (ops : Array Oper) (m : Nat) : Prop := ∀ k, m ≤ k → k < ops.size → ∀ D, Closed ops D → Pre ops D k → ∀ j, j < k → D j = true
theorem full_of {m : Nat} (h : fullOk m 0 (masks ops.toList []) = true) : Full ops m := by
  intro k hm hk D hD hpre j hj
  have hs := masks_spec (ops := ops) ops.toList [] (fun k => by simp) (fun j m h => by simp at h)
  obtain ⟨x, hx⟩ : ∃ x, (masks ops.toList [])[k]? = some x := ⟨_, List.getElem?_eq_getElem (by rw [hs.1]; simpa using hk)⟩
  exact hs.2 k x hx D hD hpre j (full_spec _ 0 h k x hx (by omega) j (by omega))

theorem plan_any (hpu : PuOk P pu) {rd : Bool} {w0 : World} {items : List It} {s : St} (hp : planOk nx ops items = true) (hlen : items.length ≤ ops.size) (hfull : Full ops items.length) (hnx : s.nx = nx + ops.size)
    (hv : ∀ i it, items[i]? = some it → ItemOk pu (nx + i) P ops i it (appD nx (fun k => Nat.blt k i) 0 items s)) {Q : Exit → Go.Act → World → Prop} :
    ∀ (fuel : Nat) (listed : Array Bool) (σ : Env) (a : Go.Act) (w : World), listed.size = ops.size → cnt ops.size listed ≤ fuel → Closed ops (fun k => listed.getD k false) → (∀ k, items.length ≤ k → listed.getD k false = false) →
      Sat rd w0 σ (appD nx (fun k => listed.getD k false) 0 items s) a w → (∀ k, k < ops.size → listed.getD k false = false → σ (nx + k) = none ∧ σ.sv (nx + k) = none) →
      (∀ k it, items[k]? = some it → listed.getD k false = true → lpOk it.mem) →
      (∀ (D : Nat → Bool) τ a' w' (p : TypeId × IntKind × Int), Ext σ τ → Sat rd w0 τ (appD nx D 0 items s) a' w' → inK p.2.1 p.2.2 → (∃ (i : Nat) (it : It) (id lo hi : Nat), items[i]? = some it ∧ it.mem = .lp id lo hi false p) → Q (.panic [{ v := .iface p.1 (.int p.2.1 p.2.2), recovered := false }]) a' w') →
      (∀ fuel' (listed' : Array Bool) τ a' w', Ext σ τ → listed'.size = ops.size → cnt ops.size listed' ≤ fuel' → (∀ k, listed'.getD k false = Nat.blt k items.length) → (∀ it ∈ items, lpOk it.mem) → Sat rd w0 τ (appD nx (fun _ => true) 0 items s) a' w' → wpAnyX P rd ops Q fuel' listed' a' w') → wpAnyX P rd ops Q fuel listed a w := by
  have hedge : ∀ j o, ops[j]? = some o → ∀ e ∈ o.after, Region.binds .any e = true → e.on < j := by
    intro j o ho e he hb
    simp only [planOk, Bool.and_eq_true] at hp
    have := edges_spec ops.toList 0 hp.1 j o (by simpa using ho) e he hb
    omega
  -- where nothing is ready, all are listed
  have hall : ∀ (listed : Array Bool), listed.size = ops.size → Region.ready .any ops listed = [] → ∀ k, k < ops.size → listed.getD k false = true := by
    intro listed hsz hr k
    induction k using Nat.strongRecOn with
    | _ k ih =>
      intro hk
      cases hl : listed.getD k false with
      | true => rfl
      | false =>
        have : k ∈ Region.ready .any ops listed := by
          rw [mem_ready]
          refine ⟨?_, ops[k], Array.getElem?_eq_getElem hk, fun e he hb => ?_⟩
          · simp only [Array.getD_eq_getD_getElem?] at hl ⊢
            rw [Array.getElem?_eq_getElem (by omega)] at hl ⊢
            simpa using hl
          · have hlt := hedge k _ (Array.getElem?_eq_getElem hk) e he hb
            exact ih e.on hlt (by omega)
        rw [hr] at this; simp at this
  -- where the plan's own are all listed
  have hfin : ∀ fuel (listed : Array Bool) σ a w, listed.size = ops.size → cnt ops.size listed ≤ fuel → (∀ k, items.length ≤ k → listed.getD k false = false) → (∀ k, k < items.length → listed.getD k false = true) → Sat rd w0 σ (appD nx (fun k => listed.getD k false) 0 items s) a w →
      (∀ k it, items[k]? = some it → listed.getD k false = true → lpOk it.mem) →
      (∀ fuel' (listed' : Array Bool) τ a' w', Ext σ τ → listed'.size = ops.size → cnt ops.size listed' ≤ fuel' → (∀ k, listed'.getD k false = Nat.blt k items.length) → (∀ it ∈ items, lpOk it.mem) → Sat rd w0 τ (appD nx (fun _ => true) 0 items s) a' w' → wpAnyX P rd ops Q fuel' listed' a' w') → wpAnyX P rd ops Q fuel listed a w := by
    intro fuel listed σ a w hsz hc htl hdone hS hlp hK
    refine hK fuel listed σ a w (Ext.refl _) hsz hc (fun k => ?_) (fun it hit => ?_) ?_
    rotate_left
    · obtain ⟨k, hk⟩ := List.getElem?_of_mem hit
      exact hlp k it hk (hdone k (List.getElem?_eq_some_iff.1 hk).1)
    rotate_left
    · rcases Nat.lt_or_ge k items.length with h | h
      · rw [hdone k h, blt_t.2 h]
      · rw [htl k h]
        cases hb : Nat.blt k items.length with
        | false => rfl
        | true => have := blt_t.1 hb; omega
    have hcong : ∀ (l : List It) (k : Nat) (s : St), k + l.length ≤ items.length → appD nx (fun k => listed.getD k false) k l s = appD nx (fun _ => true) k l s := by
      intro l
      induction l with
      | nil => intros; rfl
      | cons x l ih =>
        intro k s hk
        simp only [List.length_cons] at hk
        simp only [appD]
        rw [hdone k (by omega)]
        exact ih _ _ (by omega)
    rw [← hcong items 0 s (by omega)]
    exact hS
  intro fuel
  induction fuel with
  | zero =>
    intro listed σ a w hsz hc hcl htl hS hfree hlp hP hK
    refine hfin 0 listed σ a w hsz hc htl (fun k hk => ?_) hS hlp hK
    cases hl : listed.getD k false with
    | true => rfl
    | false =>
      have hpos : 0 < cnt ops.size listed := by
        unfold cnt
        rw [List.countP_pos_iff]
        refine ⟨k, List.mem_range.2 (by omega), ?_⟩
        simp only [Array.getD_eq_getD_getElem?] at hl ⊢
        rw [Array.getElem?_eq_getElem (by omega)] at hl ⊢
        simpa using hl
      omega
  | succ fuel ih =>
    intro listed σ a w hsz hc hcl htl hS hfree hlp hP hK
    by_cases hdone : ∀ k, k < items.length → listed.getD k false = true
    · exact hfin (fuel + 1) listed σ a w hsz hc htl hdone hS hlp hK
    refine ⟨fun hr => absurd (fun k hk => hall listed hsz hr k (by omega)) hdone, fun i hi => ?_⟩
    rw [mem_ready] at hi
    obtain ⟨h1, o, ho, hpre⟩ := hi
    have hilt : i < ops.size := (Array.getElem?_eq_some_iff.1 ho).1
    have h1' : listed.getD i false = false := by
      simp only [Array.getD_eq_getD_getElem?] at h1 ⊢
      rw [Array.getElem?_eq_getElem (by omega)] at h1 ⊢
      simpa using h1
    have hPre : Pre ops (fun k => listed.getD k false) i := by
      intro o' ho' e he hb
      rw [ho] at ho'; cases ho'
      exact hpre e he hb
    have him : i < items.length := by
      rcases Nat.lt_or_ge i items.length with x | x
      · exact x
      · exact absurd (fun k hk => hfull i x hilt _ hcl hPre k (by omega)) hdone
    obtain ⟨it, hit⟩ : ∃ it, items[i]? = some it := ⟨_, List.getElem?_eq_getElem him⟩
    have hI := plan_item hp hlen hcl hit h1' hPre (hv i it hit)
    have hset : ∀ k, (listed.setIfInBounds i true).getD k false = (listed.getD k false || Nat.beq k i) := by
      intro k
      by_cases hki : k = i
      · subst hki
        simp [Array.getD, hsz, hilt]
      · rw [beq_ne hki, Bool.or_false]
        exact getD_set_ne (i := i) (j := k) false (fun e => hki e.symm)
    refine item_step hpu hS (hfree i hilt h1') (by rw [appD_nx, hnx]; omega) hI (fun w' p ⟨id, lo, hi, hm⟩ hin hS' => hP _ σ a w' p (Ext.refl _) hS' hin ⟨i, it, id, lo, hi, hit, hm⟩) (fun τ a' w' hext hoth hlpi hS' => ?_)
    have hins := appD_insert (nx := nx) (D := fun k => listed.getD k false) (i := i) (it := it) (l := items) (s := s) h1' hit
      (fun m q d hmi hq hd hqd => by
        have mlt : m < items.length := (List.getElem?_eq_some_iff.1 hq).1
        obtain ⟨o', ho'⟩ : ∃ o', ops[m]? = some o' := ⟨_, Array.getElem?_eq_getElem (by omega)⟩
        rcases Nat.lt_or_gt_of_ne hmi with hlt | hgt
        · exact (plan_pairs hp hlen hlt hq hit ho' ho).1 d hqd hd
        · exact (plan_pairs hp hlen hgt hit hq ho ho').1 d hd hqd)
      (fun m q hq hlt hDm => by
        have mlt : m < items.length := (List.getElem?_eq_some_iff.1 hq).1
        obtain ⟨o', ho'⟩ : ∃ o', ops[m]? = some o' := ⟨_, Array.getElem?_eq_getElem (by omega)⟩
        rcases (plan_pairs hp hlen hlt hit hq ho ho').2 with h | h
        · have := h _ hcl (hcl m hDm); rw [h1'] at this; simp at this
        · exact h.m)
    rw [← hins] at hS'
    have hfun : (fun k => (listed.setIfInBounds i true).getD k false) = fun j => listed.getD j false || Nat.beq j i := funext hset
    refine ih (listed.setIfInBounds i true) τ a' w' (by simp [hsz]) ?_ ?_ (fun k hk => by rw [hset, htl k hk, beq_ne (show k ≠ i by omega)]; rfl) (by rw [hfun]; exact hS') ?_ (fun k q hq hkl => ?_) (fun D τ' a2 w2 p e2 => hP D τ' a2 w2 p (hext.trans e2)) (fun f' l' τ' a2 w2 e2 => hK f' l' τ' a2 w2 (hext.trans e2))
    · have hcd := countP_drop (p := fun k => !(listed.getD k true)) (q := fun k => !((listed.setIfInBounds i true).getD k true)) (i := i) (by simp [h1]) (by simp [Array.getD, hsz, hilt])
        (fun j hj => by rw [getD_set_ne (i := i) (j := j) true (fun e => hj e.symm)]) (List.range ops.size) List.nodup_range (List.mem_range.2 hilt)
      unfold cnt at hc ⊢
      omega
    · intro j hj o' ho' e he hb
      have hj' : (listed.setIfInBounds i true).getD j false = true := hj
      show (listed.setIfInBounds i true).getD e.on false = true
      rw [hset] at hj'
      rw [hset]
      rcases Bool.or_eq_true_iff.1 hj' with h | h
      · have h9 : listed.getD e.on false = true := hcl j h o' ho' e he hb
        rw [h9]; rfl
      · have := Nat.eq_of_beq_eq_true h
        subst this
        have h9 : listed.getD e.on false = true := hPre o' ho' e he hb
        rw [h9]; rfl
    · intro k hk hl
      rw [hset] at hl
      have h2 : listed.getD k false = false ∧ Nat.beq k i = false := by simpa using hl
      have hki : k ≠ i := fun e => by subst e; simp at h2
      rw [(hoth (nx + k) (by omega)).1, (hoth (nx + k) (by omega)).2]
      exact hfree k hk h2.1
    · rw [hset] at hkl
      rcases Bool.or_eq_true_iff.1 hkl with h | h
      · exact hlp k q hq h
      · have := Nat.eq_of_beq_eq_true h
        subst this
        rw [hit] at hq; cases hq
        exact hlpi

/-- a list's items all carried out, in the text's order -/
def appAll (nx : Nat) : Nat → List It → St → St
  | _, [], s => s
  | k, it :: l, s => appAll nx (k + 1) l (it.app (nx + k) s)
theorem appAll_D : ∀ (l : List It) (k : Nat) (s : St), appD nx (fun _ => true) k l s = appAll nx k l s
  | [], _, _ => rfl
  | it :: l, k, s => by simp only [appD, appAll, cond_true]; exact appAll_D l _ _
theorem appAll_snoc : ∀ (l : List It) (k : Nat) (s : St) (it : It), appAll nx k (l ++ [it]) s = it.app (nx + (k + l.length)) (appAll nx k l s)
  | [], k, s, it => rfl
  | x :: l, k, s, it => by
    simp only [List.cons_append, appAll, List.length_cons]
    rw [appAll_snoc l (k + 1)]
    congr 1; omega
theorem appD_take {i : Nat} : ∀ (l : List It) (k : Nat) (s : St), k ≤ i → appD nx (fun j => Nat.blt j i) k l s = appAll nx k (l.take (i - k)) s
  | [], _, _, _ => by simp [appD, appAll]
  | it :: l, k, s, hk => by
    simp only [appD]
    by_cases hki : k = i
    · subst hki
      have hb : ∀ (l : List It) (m : Nat) (s : St), k ≤ m → appD nx (fun j => Nat.blt j k) m l s = s := by
        intro l
        induction l with
        | nil => intros; rfl
        | cons x l ih =>
          intro m s hm
          have hf : Nat.blt m k = false := by
            cases h : Nat.blt m k with
            | false => rfl
            | true => have := blt_t.1 h; omega
          simp only [appD, hf, cond_false]
          exact ih _ _ (by omega)
      have hf : Nat.blt k k = false := by
        cases h : Nat.blt k k with
        | false => rfl
        | true => have := blt_t.1 h; omega
      rw [hf]
      simp only [cond_false, Nat.sub_self, List.take_zero, appAll]
      exact hb l (k + 1) s (by omega)
    · rw [blt_t.2 (show k < i by omega)]
      have : i - k = (i - (k + 1)) + 1 := by omega
      rw [this, List.take_succ_cons]
      simp only [cond_true, appAll]
      exact appD_take l (k + 1) _ (by omega)

variable {α : Type} {R : α → Prop}

theorem plEff_sat {id0 : Nat} {dst : Option Nat} {s : St} {stop : Tree α} {k : It → Tree α} : ∀ (e : Eff), (plEff pu id0 dst s stop k e).sat R → stop.sat R ∨ ∃ it, it.dst = dst ∧ EffIt pu id0 s it e ∧ (k it).sat R
  | .val x, h => .inr ⟨⟨dst, x, .no⟩, rfl, ⟨rfl, rfl⟩, h⟩
  | .load id row st col n agg, h => by
    right
    simp only [plEff] at h
    split at h <;> try (simp [Tree.sat] at h; done)
    · rename_i b hb
      cases hl : (Nat.ble 1 n && Nat.ble (row * st + col + n) (lenA b.cs)) with
      | false => simp [hl, Tree.sat] at h
      | true =>
        simp only [hl, cond_true, takeA_eq, dropA_eq, nth_eq] at h
        simp only [Bool.and_eq_true, Nat.ble_eq, lenA_eq] at hl
        cases agg with
        | true =>
          simp only [cond_true] at h
          exact ⟨_, rfl, .inl ⟨b, hb, hl.1, hl.2, rfl, by simp⟩, h⟩
        | false =>
          simp only [cond_false] at h
          have hlt : row * st + col < b.cs.length := by omega
          rw [List.getElem?_eq_getElem hlt] at h
          exact ⟨_, rfl, .inl ⟨b, hb, hl.1, hl.2, rfl, by simp only [Bool.false_eq_true, if_false]; exact List.getElem?_eq_getElem hlt⟩, h⟩
    · rename_i A hA
      cases hl : (Nat.beq A.c.size st && Nat.ble (col + n) st) with
      | false => simp [hl, Tree.sat] at h
      | true =>
        simp only [hl, cond_true] at h
        simp only [Bool.and_eq_true, Nat.beq_eq, Nat.ble_eq] at hl
        cases hr : decide (row < A.xs.length) with
        | false => simp [hr, Tree.sat] at h
        | true =>
          have hr' := of_decide_eq_true hr
          simp only [hr, cond_true, takeA_eq, dropA_eq, nth_eq] at h
          cases agg with
          | true =>
            simp only [cond_true] at h
            exact ⟨_, rfl, .inr ⟨A, hA, hl.1, hl.2, hr', rfl, by simp⟩, h⟩
          | false =>
            simp only [cond_false] at h
            cases hx : (enc A.c (getA A.xs row (dflt A.c)))[col]? with
            | none => simp [hx, Tree.sat] at h
            | some x =>
              simp only [hx] at h
              exact ⟨_, rfl, .inr ⟨A, hA, hl.1, hl.2, hr', rfl, by simp only [Bool.false_eq_true, if_false]; exact hx⟩, h⟩
  | .store id row st col vs, h => by
    simp only [plEff] at h
    split at h
    · rename_i b hb
      right
      cases hl : (Nat.ble 1 (lenA vs) && Nat.ble (row * st + col + lenA vs) (lenA b.cs)) with
      | false => simp [hl, Tree.sat] at h
      | true =>
        simp only [hl, cond_true] at h
        simp only [Bool.and_eq_true, Nat.ble_eq, lenA_eq] at hl
        exact ⟨_, rfl, .inl ⟨b, hb, hl.1, hl.2, rfl, rfl⟩, h⟩
    · rename_i A hA
      right
      cases hl : (Nat.beq A.c.size st && Nat.ble (col + lenA vs) st) with
      | false => simp [hl, Tree.sat] at h
      | true =>
        simp only [hl, cond_true] at h
        simp only [Bool.and_eq_true, Nat.beq_eq, Nat.ble_eq, lenA_eq] at hl
        cases hr : decide (row < A.xs.length) with
        | false => simp [hr, Tree.sat] at h
        | true =>
          have hr' := of_decide_eq_true hr
          simp only [hr, cond_true] at h
          split at h
          case h_2 => simp [Tree.sat] at h
          rename_i x hx
          exact ⟨_, rfl, .inr ⟨A, x, hA, hl.1, hl.2, hr', hx, rfl, rfl⟩, h⟩
    · exact .inl h
  | .alloc b mk, h => .inr ⟨⟨dst, mk id0, .al b⟩, rfl, ⟨rfl, rfl⟩, h⟩
  | .idx id st n, h => by
    right
    simp only [plEff] at h
    split at h <;> try (simp [Tree.sat] at h; done)
    rename_i A hA
    cases hl : Nat.beq A.c.size st with
    | false => simp [hl, Tree.sat] at h
    | true =>
      simp only [hl, cond_true] at h
      cases hr : decide (0 ≤ n ∧ n < A.xs.length) with
      | false => simp [hr, Tree.sat] at h
      | true =>
        have hr' := of_decide_eq_true hr
        simp only [hr, cond_true] at h
        exact ⟨_, rfl, ⟨A, hA, by simpa using hl, hr'.1, hr'.2, rfl, rfl⟩, h⟩
  | .len id, h => by
    right
    simp only [plEff] at h
    split at h <;> try (simp [Tree.sat] at h; done)
    rename_i A hA
    exact ⟨_, rfl, ⟨A, hA, rfl, rfl⟩, h⟩
  | .call f args, h => by
    simp only [plEff] at h
    cases hg : assoc pu f with
    | none => simp only [hg, Option.bind_none] at h; exact .inl h
    | some g =>
      simp only [hg, Option.bind_some] at h
      cases hfl : (g.flat || noVw g) with
      | false => simp only [hfl, cond_false] at h; exact .inl h
      | true =>
        simp only [hfl, cond_true] at h
        cases hv : view1 s.hp g.vw args with
        | none => simp only [hv, Option.bind_none] at h; exact .inl h
        | some v =>
          obtain ⟨ys, m⟩ := v
          simp only [hv, Option.bind_some] at h
          cases hx : g.run ys with
          | none => simp only [hx, Option.map_none] at h; exact .inl h
          | some y =>
            obtain ⟨c, x⟩ := y
            simp only [hx, Option.map_some] at h
            cases hpv : g.pv with
            | some p =>
              simp only [hpv] at h
              exact .inr ⟨⟨dst, x, lookPan m c p⟩, rfl, ⟨g, x, ys, m, c, hg, hfl, hv, hx, rfl, .inr ⟨p, hpv, rfl⟩⟩, h⟩
            | none =>
              simp only [hpv] at h
              cases c with
              | false => simp [Tree.sat] at h
              | true => exact .inr ⟨⟨dst, x, lookMem m⟩, rfl, ⟨g, x, ys, m, true, hg, hfl, hv, hx, rfl, .inl ⟨hpv, rfl, rfl⟩⟩, by simpa using h⟩
  | .mapGet id kc vc z k' ok, h => by
    right
    simp only [plEff] at h
    split at h <;> try (simp [Tree.sat] at h; done)
    rename_i M ho
    split at h <;> try (simp [Tree.sat] at h; done)
    rename_i j z' h1 h2
    exact ⟨_, rfl, ⟨M, j, z', ho, h1, h2, rfl, rfl⟩, h⟩
  | .mapSet id kc vc k' x, h => by
    right
    simp only [plEff] at h
    split at h <;> try (simp [Tree.sat] at h; done)
    rename_i M ho
    split at h <;> try (simp [Tree.sat] at h; done)
    rename_i j z' h1 h2
    exact ⟨_, rfl, ⟨M, j, z', ho, h1, h2, rfl, rfl⟩, h⟩
  | .test c e, h => by
    simp only [plEff] at h
    cases c with
    | false => simp [Tree.sat] at h
    | true =>
      rcases plEff_sat e (by simpa using h) with h | ⟨it, h1, h2, h3⟩
      · exact .inl h
      · exact .inr ⟨it, h1, ⟨rfl, h2⟩, h3⟩
  | .alt c x y, h => by
    simp only [plEff] at h
    cases c with
    | false =>
      rcases plEff_sat y (by simpa using h) with h | ⟨it, h1, h2, h3⟩
      · exact .inl h
      · exact .inr ⟨it, h1, .inr ⟨rfl, h2⟩, h3⟩
    | true =>
      rcases plEff_sat x (by simpa using h) with h | ⟨it, h1, h2, h3⟩
      · exact .inl h
      · exact .inr ⟨it, h1, .inl ⟨rfl, h2⟩, h3⟩
  | .bad, h => by simp [plEff, Tree.sat] at h
  | .list ty c xs, h => .inr ⟨⟨dst, .own id0, .aa ⟨ty, c, xs⟩⟩, rfl, ⟨rfl, rfl⟩, h⟩
  | .app .., h => .inl h
  | .round .., h => .inl h
  | .dfr _, h => .inl h
  | .panic _, h => .inl h
  | .mapNew .., h => .inl h
  | .mapDel .., h => .inl h
  | .mapEnt .., h => .inl h
  | .entSet .., h => .inl h
  | .iter _, h => .inl h
  | .nxt _, h => .inl h
  | .trunc .., h => .inl h

theorem put_same {s : St} {d : Nat} {x : AV} (h : s.tm d = x) : s.put (some d) x = s := by
  unfold St.put
  simp only
  have : upd s.tm d x = s.tm := by
    funext j
    by_cases hj : j = d
    · subst hj; rw [upd_same, h]
    · rw [upd_other _ _ hj]
  rw [this]

theorem evPlan_sat {s0 : St} {K : List It → St → Tree α} : ∀ (rest : List Nat) (acc : List It) (s : St), s = appAll nx 0 acc s0 → (∀ k, rest[k]? = if k < rest.length then some (acc.length + k) else none) →
    (∀ i it, acc[i]? = some it → ItemOk pu (nx + i) P ops i it (appAll nx 0 (acc.take i) s0)) → (evPlan P pu nx ops K rest acc s).sat R →
    ∃ items, items.length ≤ acc.length + rest.length ∧ (∀ i it, items[i]? = some it → ItemOk pu (nx + i) P ops i it (appAll nx 0 (items.take i) s0)) ∧ (K items (appAll nx 0 items s0)).sat R
  | [], acc, s, hs, _, hv, h => ⟨acc, Nat.le_refl _, hv, by rw [← hs]; exact h⟩
  | i :: rest, acc, s, hs, hr, hv, h => by
    have hi : i = acc.length := by have := hr 0; simpa using this
    have hr' : ∀ it : It, ∀ k, rest[k]? = if k < rest.length then some ((acc ++ [it]).length + k) else none := by
      intro it k
      have := hr (k + 1)
      simp only [List.getElem?_cons_succ, List.length_cons, Nat.add_lt_add_iff_right] at this
      rw [this]
      split
      · congr 1; simp; omega
      · rfl
    have go : ∀ (it : It), ItemOk pu (nx + i) P ops i it s → (evPlan P pu nx ops K rest (acc ++ [it]) (it.app (nx + i) s)).sat R →
        ∃ items, items.length ≤ acc.length + (i :: rest).length ∧ (∀ i it, items[i]? = some it → ItemOk pu (nx + i) P ops i it (appAll nx 0 (items.take i) s0)) ∧ (K items (appAll nx 0 items s0)).sat R := by
      intro it hit hh
      have hv' : ∀ j q, (acc ++ [it])[j]? = some q → ItemOk pu (nx + j) P ops j q (appAll nx 0 ((acc ++ [it]).take j) s0) := by
        intro j q hj
        rw [List.getElem?_append] at hj
        split at hj
        · rename_i hlt
          rw [List.take_append_of_le_length (by omega)]
          exact hv j q hj
        · rename_i hge
          have hj' : j = acc.length := by
            by_cases h0 : j - acc.length = 0
            · omega
            · have : j - acc.length = (j - acc.length - 1) + 1 := by omega
              rw [this] at hj; simp at hj
          subst hj'
          simp at hj; subst hj
          rw [List.take_left' rfl, ← hs, ← hi]
          exact hit
      obtain ⟨items, h1, h2, h3⟩ := evPlan_sat (s0 := s0) rest (acc ++ [it]) (it.app (nx + i) s) (by rw [appAll_snoc, Nat.zero_add, ← hi, ← hs]) (hr' it) hv' hh
      exact ⟨items, by simp at h1 ⊢; omega, h2, h3⟩
    simp only [evPlan] at h
    cases ho : ops[i]? with
    | none => simp [ho, Tree.sat] at h
    | some o =>
      simp only [ho] at h
      cases hd : Nat.ble s.n (o.dst.getD 0) with
      | true => simp [hd, Tree.sat] at h
      | false =>
        simp only [hd, cond_false] at h
        have hd' : o.dst.getD 0 < s.n := by
          rcases Nat.lt_or_ge (o.dst.getD 0) s.n with x | x
          · exact x
          · have : Nat.ble s.n (o.dst.getD 0) = true := by simpa using x
            rw [this] at hd; simp at hd
        have run : ∀ (_ : Runs ops o s), (plEff pu (nx + i) o.dst s (K acc s) (fun it => evPlan P pu nx ops K rest (acc ++ [it]) (it.app (nx + i) s)) (eff P o.op s.eval)).sat R →
            ∃ items, items.length ≤ acc.length + (i :: rest).length ∧ (∀ i it, items[i]? = some it → ItemOk pu (nx + i) P ops i it (appAll nx 0 (items.take i) s0)) ∧ (K items (appAll nx 0 items s0)).sat R := by
          intro hrun hh
          rcases plEff_sat _ hh with hh | ⟨it, h1, h2, h3⟩
          · exact ⟨acc, by omega, hv, by rw [← hs]; exact hh⟩
          exact go it ⟨o, ho, h1, hd', .inl ⟨hrun, h2⟩⟩ h3
        have skip : ∀ (_ : Skips ops o s), (evPlan P pu nx ops K rest (acc ++ [⟨o.dst, .val undef, .no⟩]) (s.put o.dst (.val undef))).sat R →
            ∃ items, items.length ≤ acc.length + (i :: rest).length ∧ (∀ i it, items[i]? = some it → ItemOk pu (nx + i) P ops i it (appAll nx 0 (items.take i) s0)) ∧ (K items (appAll nx 0 items s0)).sat R := by
          intro hsk hh
          exact go ⟨o.dst, .val undef, .no⟩ ⟨o, ho, rfl, hd', .inr ⟨hsk, rfl, rfl⟩⟩ hh
        cases hg : o.guard with
        | none =>
          simp only [hg] at h
          exact run (by simp [Runs, hg]) h
        | some g =>
          obtain ⟨j, want⟩ := g
          simp only [hg] at h
          cases hdst : (ops[j]?).bind (·.dst) with
          | none => simp [hdst, Tree.sat] at h
          | some d =>
            simp only [hdst] at h
            cases hn : Nat.ble s.n d with
            | true => simp [hn, Tree.sat] at h
            | false =>
              simp only [hn, cond_false] at h
              have hlt : d < s.n := by
                rcases Nat.lt_or_ge d s.n with x | x
                · exact x
                · have : Nat.ble s.n d = true := by simpa using x
                  rw [this] at hn; simp at hn
              cases hx : s.tm d with
              | bool b =>
                rw [hx] at h
                simp only at h
                have hrn : b = want → Runs ops o s := fun e => by
                  unfold Runs; rw [hg]; exact ⟨d, hdst, hlt, by rw [hx, e]⟩
                have hsk : b = (!want) → Skips ops o s := fun e => ⟨j, want, d, hg, hdst, hlt, .inl (by rw [hx, e])⟩
                cases b <;> cases want <;> simp only [cond_true, cond_false] at h <;> rw [put_same hx] at h
                · exact run (hrn rfl) h
                · exact skip (hsk rfl) h
                · exact skip (hsk rfl) h
                · exact run (hrn rfl) h
              | val v =>
                rw [hx] at h
                cases v with
                | tuple vs => exact skip ⟨j, want, d, hg, hdst, hlt, .inr ⟨vs, hx⟩⟩ h
                | _ => simp [Tree.sat] at h
              | _ => rw [hx] at h; simp [Tree.sat] at h

theorem tail_any {cT : CallT α} (hc : CTok P cT R) {rd : Bool} {w0 : World} {m : Nat} (hfull : Full ops m) (hedge : ∀ j o, ops[j]? = some o → ∀ e ∈ o.after, Region.binds .any e = true → e.on < j) {K : XE → St → Tree α} {Q : Exit → Go.Act → World → Prop} :
    ∀ (n i : Nat), i + n = ops.size → m ≤ i → ∀ (fuel : Nat) (listed : Array Bool) (σ : Env) (s : St) (a : Go.Act) (w : World), listed.size = ops.size → cnt ops.size listed ≤ fuel → (∀ k, listed.getD k false = Nat.blt k i) →
      Sat rd w0 σ s a w → (evOps P cT ops ((List.range ops.size).drop i) s K).sat R → (∀ τ s' a' w' e ex, Ext σ τ → Sat rd w0 τ s' a' w' → ExR τ e ex → (K e s').sat R → Q ex a' w') → wpAnyX P rd ops Q fuel listed a w := by
  have hun : ∀ (listed : Array Bool) (k : Nat), k < listed.size → listed.getD k true = listed.getD k false := by
    intro listed k hk
    simp only [Array.getD_eq_getD_getElem?]
    rw [Array.getElem?_eq_getElem hk]; rfl
  intro n
  induction n with
  | zero =>
    intro i hi hm fuel listed σ s a w hsz hcn hl hS h hK
    have hr : Region.ready .any ops listed = [] := by
      cases hrd : Region.ready .any ops listed with
      | nil => rfl
      | cons j rest =>
        have hj : j ∈ Region.ready .any ops listed := by rw [hrd]; simp
        rw [mem_ready] at hj
        obtain ⟨h1, o, ho, _⟩ := hj
        have hjl : j < ops.size := (Array.getElem?_eq_some_iff.1 ho).1
        rw [hun listed j (by omega), hl j, blt_t.2 (by omega)] at h1
        simp at h1
    have hq : Q .normal a w := by
      refine hK σ s a w .normal .normal (Ext.refl _) hS trivial ?_
      rw [List.drop_eq_nil_of_le (by simp; omega)] at h
      exact h
    cases fuel with
    | zero => exact ⟨hr, hq⟩
    | succ fuel => exact ⟨fun _ => hq, fun j hj => by rw [hr] at hj; simp at hj⟩
  | succ n ih =>
    intro i hi hm fuel listed σ s a w hsz hcn hl hS h hK
    have hil : i < ops.size := by omega
    have hui : listed.getD i true = false := by
      rw [hun listed i (by omega), hl i]
      cases hb : Nat.blt i i with
      | false => rfl
      | true => have := blt_t.1 hb; omega
    have hpos : 0 < cnt ops.size listed := by
      unfold cnt
      rw [List.countP_pos_iff]
      exact ⟨i, List.mem_range.2 hil, by simp [hui]⟩
    cases fuel with
    | zero => omega
    | succ fuel =>
      have hcl : Closed ops (fun k => listed.getD k false) := by
        intro j hj o ho e he hb
        have hj' : listed.getD j false = true := hj
        show listed.getD e.on false = true
        rw [hl] at hj' ⊢
        have h1 := blt_t.1 hj'
        have h2 := hedge j o ho e he hb
        exact blt_t.2 (by omega)
      have hmem : i ∈ Region.ready .any ops listed := by
        rw [mem_ready]
        refine ⟨hui, ops[i], Array.getElem?_eq_getElem hil, fun e he hb => ?_⟩
        rw [hl]
        exact blt_t.2 (hedge i _ (Array.getElem?_eq_getElem hil) e he hb)
      refine ⟨fun hr => by rw [hr] at hmem; simp at hmem, fun j hj => ?_⟩
      rw [mem_ready] at hj
      obtain ⟨h1, o, ho, hpre⟩ := hj
      have hjl : j < ops.size := (Array.getElem?_eq_some_iff.1 ho).1
      have hji : j = i := by
        rcases Nat.lt_trichotomy j i with x | x | x
        · rw [hun listed j (by omega), hl j, blt_t.2 x] at h1; simp at h1
        · exact x
        · have := hfull j (by omega) hjl _ hcl (by intro o' ho' e he hb; rw [ho] at ho'; cases ho'; exact hpre e he hb) i x
          have h2 : listed.getD i false = true := this
          rw [← hun listed i (by omega), hui] at h2; simp at h2
      subst hji
      have hdrop : (List.range ops.size).drop j = j :: (List.range ops.size).drop (j + 1) := by
        rw [List.drop_eq_getElem_cons (by simpa using hjl)]
        simp
      rw [hdrop] at h
      refine evOps_step hc hS h (fun τ s' x ch a' w' e hS' hx hk => hK τ s' a' w' _ _ e hS' hx hk) fun τ s' a' w' e hS' h' => ?_
      refine ih (j + 1) (by omega) (by omega) fuel (listed.setIfInBounds j true) τ s' a' w' (by simp [hsz]) ?_ ?_ hS' h' (fun τ' s2 a2 w2 x2 ex2 e2 => hK τ' s2 a2 w2 x2 ex2 (e.trans e2))
      · have hcd := countP_drop (p := fun k => !(listed.getD k true)) (q := fun k => !((listed.setIfInBounds j true).getD k true)) (i := j) (by simp [hui]) (by simp [Array.getD, hsz, hjl])
          (fun k hk => by rw [getD_set_ne (i := j) (j := k) true (fun e => hk e.symm)]) (List.range ops.size) List.nodup_range (List.mem_range.2 hjl)
        unfold cnt at hcn ⊢
        omega
      · intro k
        by_cases hk : k = j
        · subst hk
          rw [blt_t.2 (show k < k + 1 by omega)]
          simp [Array.getD, hsz, hjl]
        · rw [getD_set_ne (i := j) (j := k) false (fun e => hk e.symm), hl k]
          rw [Bool.eq_iff_iff, blt_t, blt_t]; omega

/-- what the panics of a region's calls come to -/
theorem pans_spec : ∀ {items : List It} {o : Option (Bool × TypeId × IntKind × Int)}, pans items = some o →
    (∀ it ∈ items, ∀ id lo hi c' p', it.mem = .lp id lo hi c' p' → ∃ c, o = some (c, p') ∧ (c = true → c' = true)) ∧ ∀ c p, o = some (c, p) → (∀ it ∈ items, ∀ id lo hi c' p', it.mem = .lp id lo hi c' p' → c' = true) → c = true
  | [], o, h => by
    simp only [pans, Option.some.injEq] at h
    subst h
    exact ⟨by simp, fun c p h => by cases h⟩
  | it :: l, o, h => by
    have other : (∀ id lo hi c p, it.mem ≠ .lp id lo hi c p) → pans l = some o → (∀ it' ∈ it :: l, ∀ id lo hi c' p', it'.mem = .lp id lo hi c' p' → ∃ c, o = some (c, p') ∧ (c = true → c' = true)) ∧ ∀ c p, o = some (c, p) → (∀ it' ∈ it :: l, ∀ id lo hi c' p', it'.mem = .lp id lo hi c' p' → c' = true) → c = true := by
      intro hne hl
      obtain ⟨k1, k2⟩ := pans_spec hl
      refine ⟨fun it' hit' => ?_, fun c p ho hall => k2 c p ho fun it' hit' => hall it' (List.mem_cons_of_mem _ hit')⟩
      rcases List.mem_cons.1 hit' with rfl | hit'
      · intro id lo hi c' p' hm; exact absurd hm (hne id lo hi c' p')
      · exact k1 it' hit'
    simp only [pans] at h
    split at h
    · rename_i id lo hi c p hm
      split at h
      · rename_i hl
        obtain ⟨k1, k2⟩ := pans_spec hl
        simp only [Option.some.injEq] at h
        subst h
        refine ⟨fun it' hit' id' lo' hi' c' p' hm' => ?_, fun c1 p1 ho hall => ?_⟩
        · rcases List.mem_cons.1 hit' with rfl | hit'
          · rw [hm] at hm'
            cases hm'
            exact ⟨_, rfl, fun h => h⟩
          · obtain ⟨c2, e, _⟩ := k1 it' hit' id' lo' hi' c' p' hm'
            cases e
        · cases ho
          exact hall it (by simp) id lo hi c p hm
      · rename_i c2 p2 hl
        obtain ⟨k1, k2⟩ := pans_spec hl
        cases hd : decide (p = p2) with
        | false => rw [hd] at h; cases h
        | true =>
          have hpp := of_decide_eq_true hd
          subst hpp
          rw [hd, cond_true, Option.some.injEq] at h
          subst h
          refine ⟨fun it' hit' id' lo' hi' c' p' hm' => ?_, fun c1 p1 ho hall => ?_⟩
          · rcases List.mem_cons.1 hit' with rfl | hit'
            · rw [hm] at hm'
              cases hm'
              exact ⟨_, rfl, fun h => (Bool.and_eq_true_iff.1 h).1⟩
            · obtain ⟨c3, e, k3⟩ := k1 it' hit' id' lo' hi' c' p' hm'
              cases e
              exact ⟨_, rfl, fun h => k3 (Bool.and_eq_true_iff.1 h).2⟩
          · cases ho
            rw [hall it (by simp) id lo hi c p hm, k2 c2 p rfl fun it' hit' => hall it' (List.mem_cons_of_mem _ hit')]
            rfl
      · cases h
    · rename_i hne
      exact other (fun id lo hi c p hm => hne id lo hi c p hm) h
theorem wipeTm_get {t : Nat} : ∀ (items : List It) (tm : Nat → AV), (wipeTm items tm t = .top) ∨ (wipeTm items tm t = tm t ∧ ∀ it ∈ items, it.dst ≠ some t)
  | [], tm => .inr ⟨rfl, by simp⟩
  | it :: l, tm => by
    simp only [wipeTm]
    cases hd : it.dst with
    | none =>
      rcases wipeTm_get (t := t) l tm with h | ⟨h1, h2⟩
      · exact .inl h
      · refine .inr ⟨h1, fun it' hit' => ?_⟩
        rcases List.mem_cons.1 hit' with rfl | hit'
        · rw [hd]; simp
        · exact h2 it' hit'
    | some d =>
      rcases wipeTm_get (t := t) l (upd tm d .top) with h | ⟨h1, h2⟩
      · exact .inl h
      · by_cases htd : t = d
        · subst htd
          rw [upd_same] at h1
          exact .inl h1
        · rw [upd_other _ _ htd] at h1
          refine .inr ⟨h1, fun it' hit' => ?_⟩
          rcases List.mem_cons.1 hit' with rfl | hit'
          · rw [hd]; intro e; cases e; exact htd rfl
          · exact h2 it' hit'
theorem wipeHp_get {j : Nat} {o : Ob} : ∀ (items : List It) (hp : Heap), wipeHp items hp j = some o → hp j = some o ∧ ∀ it ∈ items, (∀ lo vs, it.mem ≠ .st j lo vs) ∧ (∀ A, it.mem ≠ .sa j A) ∧ ∀ M, it.mem ≠ .sm j M
  | [], hp, h => ⟨h, by simp⟩
  | it :: l, hp, h => by
    simp only [wipeHp] at h
    obtain ⟨h1, h2⟩ := wipeHp_get l _ h
    have key : ∀ id, (upd hp id none) j = some o → j ≠ id ∧ hp j = some o := by
      intro id hk
      by_cases hj : j = id
      · subst hj; rw [upd_same] at hk; cases hk
      · rw [upd_other _ _ hj] at hk; exact ⟨hj, hk⟩
    cases hm : it.mem with
    | st id lo vs =>
      rw [hm] at h1
      obtain ⟨k1, k2⟩ := key id h1
      refine ⟨k2, fun it' hit' => ?_⟩
      rcases List.mem_cons.1 hit' with rfl | hit'
      · rw [hm]; exact ⟨fun _ _ e => (by cases e; exact k1 rfl), fun _ e => (by cases e), fun _ e => (by cases e)⟩
      · exact h2 it' hit'
    | sa id A =>
      rw [hm] at h1
      obtain ⟨k1, k2⟩ := key id h1
      refine ⟨k2, fun it' hit' => ?_⟩
      rcases List.mem_cons.1 hit' with rfl | hit'
      · rw [hm]; exact ⟨fun _ _ e => (by cases e), fun _ e => (by cases e; exact k1 rfl), fun _ e => (by cases e)⟩
      · exact h2 it' hit'
    | sm id A =>
      rw [hm] at h1
      obtain ⟨k1, k2⟩ := key id h1
      refine ⟨k2, fun it' hit' => ?_⟩
      rcases List.mem_cons.1 hit' with rfl | hit'
      · rw [hm]; exact ⟨fun _ _ e => (by cases e), fun _ e => (by cases e), fun _ e => (by cases e; exact k1 rfl)⟩
      · exact h2 it' hit'
    | _ =>
      rw [hm] at h1
      refine ⟨h1, fun it' hit' => ?_⟩
      rcases List.mem_cons.1 hit' with rfl | hit'
      · rw [hm]; exact ⟨fun _ _ e => (by cases e), fun _ e => (by cases e), fun _ e => (by cases e)⟩
      · exact h2 it' hit'
theorem appD_untouched {D : Nat → Bool} {nx j : Nat} : ∀ (l : List It) (k : Nat) (s : St), (∀ i, j ≠ nx + i) → (∀ it ∈ l, (∀ lo vs, it.mem ≠ .st j lo vs) ∧ (∀ A, it.mem ≠ .sa j A) ∧ ∀ M, it.mem ≠ .sm j M) → (appD nx D k l s).hp j = s.hp j
  | [], _, _, _, _ => rfl
  | it :: l, k, s, hj, h => by
    simp only [appD]
    rw [appD_untouched l (k + 1) _ hj fun it' hit' => h it' (List.mem_cons_of_mem _ hit')]
    cases D k with
    | false => rfl
    | true =>
      simp only [cond_true, app_hp]
      obtain ⟨h1, h2, h3⟩ := h it (by simp)
      cases hm : it.mem with
      | st id lo vs => simp only [Mem.app]; exact upd_other _ _ fun e => h1 lo vs (by rw [hm, e])
      | sa id A => simp only [Mem.app]; exact upd_other _ _ fun e => h2 A (by rw [hm, e])
      | sm id A => simp only [Mem.app]; exact upd_other _ _ fun e => h3 A (by rw [hm, e])
      | al b => simp only [Mem.app]; exact upd_other _ _ (hj k)
      | aa b => simp only [Mem.app]; exact upd_other _ _ (hj k)
      | _ => rfl
theorem Sat.wiped {rd : Bool} {w0 : World} {τ : Env} {nx : Nat} {D : Nat → Bool} {items : List It} {s0 : St} {a : Go.Act} {w : World} (h : Sat rd w0 τ (appD nx D 0 items s0) a w) (hf : ∀ i, nx ≤ i → s0.hp i = none) {m : Nat} (_ : m = nx) : Sat rd w0 τ (wipe items s0) a w := by
  have hnone : ∀ (l : List It) (k : Nat) (s' : St), appD nx (fun _ => false) k l s' = s' := by
    intro l
    induction l with
    | nil => intros; rfl
    | cons x l ih => intro k s'; simp only [appD, cond_false]; exact ih _ _
  refine ⟨?_, fun t => ?_, ?_, ?_, h.bl, ?_⟩
  · have := h.h.less (hp' := wipeHp items s0.hp) fun j o hj => by
      obtain ⟨h1, h2⟩ := wipeHp_get items _ hj
      rw [appD_untouched items 0 s0 (fun i e => by rw [hf j (by omega)] at h1; cases h1) h2]
      exact h1
    rwa [appD_nx] at this
  · show Rep τ (wipeTm items s0.tm t) _
    rcases wipeTm_get (t := t) items s0.tm with k | ⟨k1, k2⟩
    · rw [k]; simp only [Rep]
    · rw [k1]
      have := h.tm t
      rw [appD_tm (E := fun _ => false) items 0 s0 s0 rfl (fun m it hm hd => absurd hd (k2 it (List.mem_of_getElem? hm))), hnone] at this
      exact this
  · have := h.n; rwa [appD_n] at this
  · have := h.df; rwa [appD_df] at this
  · have := h.rd; rwa [appD_rd] at this
theorem draw_sound {cT : CallT α} (hc : CTok P cT R) (hmix : P.follows .mixedOrders = true) (hpu : PuOk P pu) {rd : Bool} {w0 : World} {σ : Env} {s : St} {a : Go.Act} {w : World} {K : XE → St → Tree α} {fn : FuncId} {id : Nat} {ops : Array Oper} (hS : Sat rd w0 σ s a w) (hnd : rd = true → noDefer ops = true)
    (h : (evPlan P pu s.nx ops (fun items s' =>
      bif planOk s.nx ops items && fullOk (lenA items) 0 (masks ops.toList []) then match pans items with
          | some none => evOps P cT ops ((List.range ops.size).drop (lenA items)) s' K
          | some (some (c, p)) => bif c then evOps P cT ops ((List.range ops.size).drop (lenA items)) s' K else K (.panic (pvA p)) (wipe items { s with nx := s.nx + ops.size })
          | none => .fail
        else .fail) (List.range ops.size) [] { s with nx := s.nx + ops.size }).sat R) :
    Code.wpX P rd fn (.region id ops true) (fun e a' w' => ∃ τ x s', Ext σ τ ∧ Sat rd w0 τ s' a' w' ∧ ExR τ x e ∧ (K x s').sat R) a w := by
  obtain ⟨items, h1, h2, h3⟩ := evPlan_sat (s0 := { s with nx := s.nx + ops.size }) (List.range ops.size) [] _ rfl (fun k => by
    simp only [List.length_range, List.length_nil, Nat.zero_add]
    split
    · rename_i hk; simp [hk]
    · rename_i hk; exact List.getElem?_eq_none (by simp; omega)) (fun i it hi => by simp at hi) h
  have hlen : items.length ≤ ops.size := by simpa using h1
  simp only [lenA_eq] at h3
  cases hp : (planOk s.nx ops items && fullOk items.length 0 (masks ops.toList [])) with
  | false => simp [hp, Tree.sat] at h3
  | true =>
    simp only [hp, cond_true] at h3
    rw [Bool.and_eq_true] at hp
    obtain ⟨hp, hfl⟩ := hp
    have hfull : Full ops items.length := full_of hfl
    have hedge : ∀ j o, ops[j]? = some o → ∀ e ∈ o.after, Region.binds .any e = true → e.on < j := by
      intro j o ho e he hb
      simp only [planOk, Bool.and_eq_true] at hp
      have := edges_spec ops.toList 0 hp.1 j o (by simpa using ho) e he hb
      omega
    refine wpX_region_any hmix hnd ?_
    have hh0 : HRel w0.heap.size σ s.hp (s.nx + ops.size) { w with drawn := w.drawn + 1 } := by
      have hk := hS.h
      exact ⟨fun id o hi => (hk.ob id o hi).keep (Ext.refl σ) rfl (fun _ _ => rfl), hk.inj, fun i hi => hk.fresh i (by omega), hk.bound, hk.mem.keep (fun _ _ _ _ => rfl), hk.sep, hk.low, hk.kp.keep (Nat.le_refl _) (fun _ _ => rfl) (fun _ h => h)⟩
    have hS0 : Sat rd w0 σ { s with nx := s.nx + ops.size } a { w with drawn := w.drawn + 1 } := ⟨hh0, hS.tm, hS.n, hS.df, hS.bl.drew, hS.rd⟩
    have hD0 : (fun k => (Array.replicate ops.size false).getD k false) = fun _ => false := by
      funext k
      simp only [Array.getD_eq_getD_getElem?, Array.getElem?_replicate]
      split <;> rfl
    have hnone : ∀ (l : List It) (k : Nat) (s' : St), appD s.nx (fun _ => false) k l s' = s' := by
      intro l
      induction l with
      | nil => intros; rfl
      | cons x l ih => intro k s'; simp only [appD, cond_false]; exact ih _ _
    obtain ⟨o, ho⟩ : ∃ o, pans items = some o := by
      cases hpn : pans items with
      | none => rw [hpn] at h3; exact h3.elim
      | some o => exact ⟨o, rfl⟩
    rw [ho] at h3
    have hspec := pans_spec ho
    refine plan_any (w0 := w0) hpu hp hlen hfull (s := { s with nx := s.nx + ops.size }) rfl (fun i it hi => by
      rw [appD_take items 0 _ (Nat.zero_le _)]; exact h2 i it hi) ops.size (Array.replicate ops.size false) σ a _ (by simp) ?_ ?_ (fun k _ => congrFun hD0 k) ?_ ?_ ?_ ?_ ?_
    · unfold cnt
      exact Nat.le_trans List.countP_le_length (by simp)
    · rw [hD0]; intro j hj; simp at hj
    · rw [hD0, hnone]; exact hS0
    · intro k _ _; exact ⟨(hS.h.fresh _ (by omega)).1, (hS.h.fresh _ (by omega)).2.1⟩
    · intro k it _ hk
      rw [congrFun hD0 k] at hk; cases hk
    · rintro D τ a' w' p he hS' hin ⟨i, it, id, lo, hi, hi1, hi2⟩
      obtain ⟨c, rfl, hc1⟩ := hspec.1 it (List.mem_of_getElem? hi1) id lo hi false p hi2
      cases c with
      | true => cases hc1 rfl
      | false =>
        simp only [cond_false] at h3
        exact ⟨τ, .panic (pvA p), _, he, hS'.wiped (s0 := { s with nx := s.nx + ops.size }) (fun i hi => (hS.h.fresh i hi).2.2) rfl, ⟨_, pvA_rep hin, rfl⟩, h3⟩
    · intro fuel' listed' τ a' w' he hsz hcn hl hall hS'
      rw [appAll_D] at hS'
      replace h3 : (evOps P cT ops ((List.range ops.size).drop items.length) (appAll s.nx 0 items { s with nx := s.nx + ops.size }) K).sat R := by
        cases o with
        | none => exact h3
        | some z =>
          obtain ⟨c, p⟩ := z
          have : c = true := hspec.2 c p rfl fun it hit id lo hi c' p' hm => by
            have := hall it hit
            rw [hm] at this
            exact this
          subst this
          exact h3
      exact tail_any hc hfull hedge (ops.size - items.length) items.length (by omega) (Nat.le_refl _) fuel' listed' τ _ a' w' hsz hcn hl hS' h3 (fun τ' s' a2 w2 x2 ex2 e2 hS2 hx2 hk2 => ⟨τ', x2, s', he.trans e2, hS2, hx2, hk2⟩)
end
end V
end Go.Proofs.Ytdblbofagfhlbaa
/- That the symbolic evaluator of the text Va is sound, last part: code, loops over functions, functions. -/
namespace Go.Proofs.Ytdblbofagfhlbaa
open Go.RowKit
namespace V

theorem sat_bind {β γ : Type} {R : γ → Prop} (t : Tree β) (f : β → Tree γ) : (t.bind f).sat R ↔ t.sat (fun x => (f x).sat R) := by
  induction t with
  | leaf a => rfl
  | need p t ih => simp only [Tree.bind, Tree.sat, ih]
  | br c t e ih1 ih2 => cases c <;> simp [Tree.bind, Tree.sat, ih1, ih2]
  | fail => rfl

theorem bif_false {α : Type} {R : α → Prop} {b : Bool} {t : Tree α} (hb : b = false) (h : (bif b then .fail else t).sat R) : t.sat R := by subst hb; exact h
def XRes (rd : Bool) (w0 : World) (σ : Env) (R' : XE → St → Prop) (e : Exit) (a' : Go.Act) (w' : World) : Prop :=
  ∃ τ x s', Ext σ τ ∧ Sat rd w0 τ s' a' w' ∧ ExR τ x e ∧ R' x s'
/-- what is owed for the summary of a loop -/
def LoopOk (P : Program) (fn : FuncId) (c : Code) (f : St → Tree (XE × St)) : Prop :=
  ∀ (w0 : World) (σ : Env) (s : St) (a : Go.Act) (w : World) (R : XE × St → Prop), Sat false w0 σ s a w → (f s).sat R → Code.wpX P false fn (.loop c) (XRes false w0 σ fun x s' => R (x, s')) a w
def loopsOf : Code → List Code
  | .seq a b => loopsOf a ++ loopsOf b
  | .cond _ a b => loopsOf a ++ loopsOf b
  | .block _ c => loopsOf c
  | .loop c => c :: loopsOf c
  | _ => []

section
variable {P : Program} {α : Type} {cT : CallT α} {R : α → Prop}

/-- the world is turned where nothing that lives lies -/
theorem HRel.other {B : Nat} {σ : Env} {hp : Heap} {nx : Nat} {w w' : World} (h : HRel B σ hp nx w) (hsz : w.heap.size ≤ w'.heap.size)
    (keep : ∀ j n, hp j ≠ none → σ j = some n → w'.heap[n]? = w.heap[n]?) (kmem : ∀ n oo v, σ.mem n oo = some v → w'.heap[n]? = w.heap[n]?) (kkp : ∀ n, σ.kp n ≠ none → w'.heap[n]? = w.heap[n]?) : HRel B σ hp nx w' :=
  ⟨fun j o hj => (h.ob j o hj).keep (Ext.refl σ) rfl fun n hn => keep j n (by rw [hj]; simp) hn, h.inj, h.fresh, fun i n hn => Nat.lt_of_lt_of_le (h.bound i n hn) hsz, h.mem.keep kmem, h.sep, h.low, h.kp.keep hsz kkp (fun _ h => h)⟩
theorem HRel.gone {B : Nat} {σ : Env} {hp : Heap} {nx : Nat} {w : World} (h : HRel B σ hp nx w) {id n : Nat} (hid : hp id ≠ none) (hn : σ id = some n) (o : Obj) : HRel B σ (upd hp id none) nx (w.putObj n o) := by
  refine (h.less (less_none hp id)).other (by simp) ?_ ?_ ?_
  · intro j k hj hk
    have hne : j ≠ id := fun e => by subst e; rw [upd_same] at hj; exact hj rfl
    rw [upd_other _ _ hne] at hj
    exact World.putObj_heap_other fun e => hne (h.inj j id n hj hid (e ▸ hk) hn)
  · intro k oo v hv
    refine World.putObj_heap_other fun e => ?_
    subst e
    rw [h.sep id k hid hn oo] at hv; cases hv
  · intro k hk
    refine World.putObj_heap_other fun e => ?_
    subst e
    exact hk (h.kp.sep id k hid hn)
theorem range_sound (hc : CTok P cT R) {w0 : World} {σ : Env} {s : St} {a : Go.Act} {w : World} {fn : FuncId} {f : Operand} {params : Array Nat} {assign body : Code} {K : XE → St → Tree α} (hS : Sat false w0 σ s a w)
    {pu : List (Nat × PureT)} {u : Nat} {L : LoopT} (h : (evC P cT pu fn u L (.rangeFunc f params assign body) s K).sat R) :
    Code.wpX P false fn (.rangeFunc f params assign body) (XRes false w0 σ fun x s' => (K x s').sat R) a w := by
  simp only [evC] at h
  replace h := bif_false hS.rd h
  have hf := hS.eval f
  cases hfv : s.eval f with
  | fn F first cap =>
    cases F with
    | func gf =>
      rw [hfv] at h hf
      simp only [Rep] at hf
      obtain ⟨xf, xc, r1, r2, r3⟩ := hf
      simp only at h
      obtain ⟨τ1, e1, t1, _, H1⟩ := hS.h.new (obj := .deferred (some [])) (o := .dfr) (sv := none) (fun τ _ _ k1 _ => ⟨w.heap.size, k1, by show (w.heap.push _)[w.heap.size]? = _; simp, hS.bl.size⟩)
      obtain ⟨τ2, e2, t2, _, H2⟩ := H1.new (obj := .loop { state := .ready, pending := none, fn := fn, tmps := a.tmps, params := params, assign := assign, body := body, defers := w.heap.size }) (o := .lp ⟨s.tm, s.n, fn, params.toList, assign, body, .ready, none, s.nx⟩) (sv := none)
        (fun τ e _ k1 _ => ⟨(w.alloc (.deferred (some []))).heap.size, { state := .ready, pending := none, fn := fn, tmps := a.tmps, params := params, assign := assign, body := body, defers := w.heap.size }, k1, by show ((w.alloc (.deferred (some []))).heap.push _)[(w.alloc (.deferred (some []))).heap.size]? = _; rw [Array.getElem?_push_size], ⟨fun t => (hS.tm t).mono (e1.trans e), hS.n, rfl, rfl, rfl, rfl, rfl, rfl⟩, by simp; have := hS.bl.size; omega⟩)
      have hsz : (w.alloc (.deferred (some []))).heap.size = w.heap.size + 1 := by simp
      rw [hsz] at t2
      have e12 := e1.trans e2
      have hargs : RepL τ2 (first ++ [.yld (s.nx + 1)] ++ cap) (xf ++ [.func (.yield (w.heap.size + 1)) #[] #[]] ++ xc) :=
        ((r1.mono e12).append (by simp only [RepL, Rep]; exact ⟨_, [], rfl, ⟨_, t2, rfl⟩, rfl⟩)).append (r2.mono e12)
      have hB2 : Below w0.heap.size w0 (loopW w fn a.tmps params assign body) := (hS.bl.alloc hS.bl.size _).alloc (by simp; have := hS.bl.size; omega) _
      obtain ⟨c1, c2⟩ := hc w0 τ2 _ (s.nx + 2) (loopW w fn a.tmps params assign body) (.fn gf) _ _ _ H2 hB2 hargs h
      have hua : (xf ++ [Value.func (.yield (w.heap.size + 1)) #[] #[]] ++ xc).toArray = xf.toArray ++ #[Value.func (.yield (w.heap.size + 1)) #[] #[]] ++ xc.toArray := by simp
      rw [hua] at c1 c2
      refine wpX_rangeFunc r3 c1 (c2.mono ?_)
      rintro e w3 ⟨y, τ, hp', nx', e3, H3, B3, hout, hk⟩
      have e0 := e12.trans e3
      cases e with
      | outgrown => cases y <;> exact hout.elim
      | returned v => cases y with
        | pan x => exact hout.elim
        | ret x =>
          simp only at hk
          split at hk <;> try (simp [Tree.sat] at hk; done)
          rename_i r hr
          obtain ⟨n, L, l1, l2, l3, l4⟩ := H3.ob (s.nx + 1) _ hr
          have hn : n = w.heap.size + 1 := Option.some.inj (l1.symm.trans (e3.1 _ _ t2))
          subst hn
          have hnb : r.st ≠ .busy := by intro e; rw [e] at hk; simp [Tree.sat] at hk
          replace hk : (match r.pend with
              | none => K .normal { s with hp := upd hp' (s.nx + 1) none, nx := nx', df := .mark s.nx :: s.df }
              | some c => match jumpOf c with
                | some e => K e { s with hp := upd hp' (s.nx + 1) none, nx := nx', df := .mark s.nx :: s.df }
                | none => .fail : Tree α).sat R := by
            cases hst : r.st <;> rw [hst] at hk hnb <;> first | exact hk | exact absurd rfl hnb
          rw [← l3.st] at hnb
          rw [← l3.pend] at hk
          have H4 := H3.gone (by rw [hr]; simp) l1 (.loop { L with state := .exhausted })
          have hS' : Sat false w0 τ { s with hp := upd hp' (s.nx + 1) none, nx := nx', df := .mark s.nx :: s.df } { a with defers := { target := .collected w.heap.size, args := #[] } :: a.defers } (w3.putObj (w.heap.size + 1) (.loop { L with state := .exhausted })) :=
            ⟨H4, fun t => (hS.tm t).mono e0, hS.n, .cons ⟨w.heap.size, (e2.trans e3).1 _ _ t1, rfl⟩ (hS.df.mono e0), below_putObj B3 (by have := hS.bl.size; omega) _, hS.rd⟩
          generalize hW : w3.putObj (w.heap.size + 1) (.loop { L with state := .exhausted }) = W at hS'
          refine ⟨L, W, l2, hnb, hW.symm, ?_⟩
          clear hW
          split
          · rename_i hp
            rw [hp] at hk; exact ⟨τ, .normal, _, e0, hS', trivial, hk⟩
          · rename_i hp
            rw [hp] at hk; exact ⟨τ, .ret, _, e0, hS', trivial, hk⟩
          · rename_i id hp
            rw [hp] at hk; exact ⟨τ, .exit id, _, e0, hS', rfl, hk⟩
          · rename_i h1 h2 h3
            cases hp : L.pending with
            | none => exact h1 hp
            | some c =>
              rw [hp] at hk
              cases c with
              | ret => exact h2 hp
              | exit id => exact h3 id hp
              | _ => simp [jumpOf, Tree.sat] at hk
      | panicked ch => cases y with
        | ret x => exact hout.elim
        | pan x =>
          simp only at hk
          have hS' : Sat false w0 τ { s with hp := hp', nx := nx', df := .mark s.nx :: s.df } { a with defers := { target := .collected w.heap.size, args := #[] } :: a.defers } w3 :=
            ⟨H3, fun t => (hS.tm t).mono e0, hS.n, .cons ⟨w.heap.size, (e2.trans e3).1 _ _ t1, rfl⟩ (hS.df.mono e0), B3, hS.rd⟩
          exact ⟨τ, .panic x, _, e0, hS', hout, hk⟩
    | _ => rw [hfv] at h; simp [Tree.sat] at h
  | _ => rw [hfv] at h; simp [Tree.sat] at h

theorem evC_sound (hmix : P.follows .mixedOrders = true) {pu : List (Nat × PureT)} (hpu : PuOk P pu) (hc : CTok P cT R) {rd : Bool} {w0 : World} (fn : FuncId) (u : Nat) (L : LoopT) : ∀ (c : Code) (_ : ∀ d ∈ loopsOf c, ∀ f, L (keyOf d) = some f → LoopOk P fn d f) (σ : Env) (s : St) (a : Go.Act) (w : World) (K : XE → St → Tree α),
    Sat rd w0 σ s a w → (evC P cT pu fn u L c s K).sat R → Code.wpX P rd fn c (XRes rd w0 σ fun x s' => (K x s').sat R) a w
  | .skip, _, σ, s, a, w, K, hS, h => wpX_skip ⟨σ, .normal, s, Ext.refl _, hS, trivial, by simpa [evC] using h⟩
  | .region id ops draw, _, σ, s, a, w, K, hS, h => by
    have key : ∀ t : Tree α, (bif s.rd && !(noDefer ops) then .fail else t).sat R → t.sat R ∧ (rd = true → noDefer ops = true) := by
      intro t ht
      rw [hS.rd] at ht
      cases rd with
      | false => exact ⟨by simpa using ht, by simp⟩
      | true =>
        cases hn : noDefer ops with
        | true => rw [hn] at ht; exact ⟨by simpa using ht, fun _ => rfl⟩
        | false => rw [hn] at ht; simp [Tree.sat] at ht
    cases draw with
    | true =>
      simp only [evC] at h
      obtain ⟨h1, h2⟩ := key _ h
      exact draw_sound (K := K) hc hmix hpu hS h2 h1
    | false =>
      simp only [evC] at h
      obtain ⟨h1, h2⟩ := key _ h
      exact wpX_region h2 (evOps_sound hc _ σ s a w hS h1 (fun τ s' a' w' e ex he hS' hx h' => ⟨τ, e, s', he, hS', hx, h'⟩))
  | .seq x y, hL, σ, s, a, w, K, hS, h => by
    simp only [evC] at h
    have h1 := evC_sound hmix hpu hc fn u L x (fun d hd => hL d (by simp [loopsOf, hd])) σ s a w _ hS h
    refine wpX_seq (wpX_mono h1 ?_)
    rintro e a' w' ⟨τ, x', s', he, hS', hx, h'⟩
    cases x' <;> cases e <;> simp only [ExR] at hx <;> simp only at h'
    · have h2 := evC_sound hmix hpu hc fn u L y (fun d hd => hL d (by simp [loopsOf, hd])) τ s' a' w' K hS' h'
      exact wpX_mono h2 fun e a2 w2 ⟨τ2, x2, s2, e2, hS2, hx2, h2⟩ => ⟨τ2, x2, s2, he.trans e2, hS2, hx2, h2⟩
    · exact ⟨τ, .exit _, s', he, hS', hx, h'⟩
    · exact ⟨τ, .ret, s', he, hS', trivial, h'⟩
    · exact ⟨τ, .panic _, s', he, hS', hx, h'⟩
  | .cond o x y, hL, σ, s, a, w, K, hS, h => by
    simp only [evC] at h
    have hr := hS.eval o
    cases ho : s.eval o with
    | bool b =>
      rw [ho] at hr h
      simp only [Rep] at hr
      have hl : Sat rd w0 σ (learn o b s) a w := by
        cases o with
        | tmp t =>
          simp only [learn]
          cases Nat.ble s.n t with
          | true => exact hS
          | false => exact hS.learn (by simp only [Go.Act.eval] at hr; rw [hr]; simp only [Rep])
        | _ => exact hS
      cases b with
      | true => exact wpX_cond_true hr (evC_sound hmix hpu hc fn u L x (fun d hd => hL d (by simp [loopsOf, hd])) σ _ a w K hl (by simpa using h))
      | false => exact wpX_cond_false hr (evC_sound hmix hpu hc fn u L y (fun d hd => hL d (by simp [loopsOf, hd])) σ _ a w K hl (by simpa using h))
    | _ => rw [ho] at h; simp [Tree.sat] at h
  | .block id c, hL, σ, s, a, w, K, hS, h => by
    simp only [evC] at h
    have h1 := evC_sound hmix hpu hc fn u L c (fun d hd => hL d (by simpa [loopsOf] using hd)) σ s a w _ hS h
    refine wpX_block (wpX_mono h1 ?_)
    rintro e a' w' ⟨τ, x', s', he, hS', hx, h'⟩
    cases x' <;> cases e <;> simp only [ExR] at hx <;> simp only at h'
    · exact ⟨τ, .normal, s', he, hS', trivial, h'⟩
    · rename_i i j
      subst hx
      simp only [Exit.inBlock]
      by_cases hid : i = id
      · subst hid
        rw [if_pos rfl]
        exact ⟨τ, .normal, s', he, hS', trivial, by simpa using h'⟩
      · rw [if_neg hid]
        exact ⟨τ, .exit i, s', he, hS', rfl, by simpa [beq_ne hid] using h'⟩
    · exact ⟨τ, .ret, s', he, hS', trivial, h'⟩
    · exact ⟨τ, .panic _, s', he, hS', hx, h'⟩
  | .loop c, hL, σ, s, a, w, K, hS, h => by
    simp only [evC] at h
    cases hl : L (keyOf c) with
    | some f =>
      simp only [hl] at h
      cases hrd : rd with
      | true => rw [hS.rd, hrd] at h; simp [Tree.sat] at h
      | false =>
        subst hrd
        rw [hS.rd, cond_false, sat_bind] at h
        exact hL c (by simp [loopsOf]) f hl w0 σ s a w _ hS h
    | none =>
      simp only [hl] at h
      have key : ∀ (n : Nat) (σ' : Env) (s : St) (a : Go.Act) (w : World), Ext σ σ' → Sat rd w0 σ' s a w → (unroll n (fun s K => evC P cT pu fn u L c s K) s K).sat R →
          roundsX P rd fn c (XRes rd w0 σ fun x s' => (K x s').sat R) n a w := by
        intro n
        induction n with
        | zero => intro σ' s a w _ _ h; simp [unroll, Tree.sat] at h
        | succ n ih =>
          intro σ' s a w e0 hS h
          simp only [unroll] at h
          have h1 := evC_sound hmix hpu hc fn u L c (fun d hd => hL d (by simp [loopsOf, hd])) σ' s a w _ hS h
          refine wpX_mono h1 ?_
          rintro e a' w' ⟨τ, x', s', he, hS', hx, h'⟩
          cases x' <;> cases e <;> simp only [ExR] at hx <;> simp only at h'
          · exact ih τ s' a' w' (e0.trans he) hS' h'
          · exact ⟨τ, .exit _, s', e0.trans he, hS', hx, h'⟩
          · exact ⟨τ, .ret, s', e0.trans he, hS', trivial, h'⟩
          · exact ⟨τ, .panic _, s', e0.trans he, hS', hx, h'⟩
      exact wpX_loop_rounds u (key u σ s a w (Ext.refl _) hS h)
  | .exit id, _, σ, s, a, w, K, hS, h => wpX_exit ⟨σ, .exit id, s, Ext.refl _, hS, rfl, by simpa [evC] using h⟩
  | .ret, _, σ, s, a, w, K, hS, h => wpX_ret ⟨σ, .ret, s, Ext.refl _, hS, trivial, by simpa [evC] using h⟩
  | .rangeFunc f ps x y, _, σ, s, a, w, K, hS, h => by
    cases hrd : rd with
    | true => simp only [evC] at h; rw [hS.rd, hrd] at h; simp [Tree.sat] at h
    | false => subst hrd; exact range_sound hc hS h
  | .scope _, _, _, _, _, _, _, _, h => by simp [evC, Tree.sat] at h
  | .label _, _, _, _, _, _, _, _, h => by simp [evC, Tree.sat] at h
  | .goto _, _, _, _, _, _, _, _, h => by simp [evC, Tree.sat] at h
  | .refuse _, _, _, _, _, _, _, _, h => by simp [evC, Tree.sat] at h
end
end V
end Go.Proofs.Ytdblbofagfhlbaa
/- That the symbolic evaluator of the text Va is sound: functions, their summaries, rounds of loops over functions. -/
namespace Go.Proofs.Ytdblbofagfhlbaa
open Go.RowKit
namespace V

/-- what is owed for the summary of a function that turns memory -/
def SpecOk (P : Program) (f : FuncId) (c : Heap → Nat → List AV → Tree (Out × Heap × Nat)) : Prop :=
  ∀ (w0 : World) (σ : Env) (hp : Heap) (nx : Nat) (w : World) (xs : List AV) (us : List Value) (R : Out × Heap × Nat → Prop),
    HRel w0.heap.size σ hp nx w → Below w0.heap.size w0 w → RepL σ xs us → (c hp nx xs).sat R →
    Calls' P f us.toArray w fun e w' => ∃ y τ hp' nx', Ext σ τ ∧ HRel w0.heap.size τ hp' nx' w' ∧ Below w0.heap.size w0 w' ∧ OutR τ y e ∧ R (y, hp', nx')

structure CtxOk (X : Ctx) : Prop where
  mix : X.P.follows .mixedOrders = true
  pures : PuOk X.P X.pures
  fns : ∀ p ∈ X.fns, X.P.funcs[p.1]? = some p.2 ∧ (p.2.name == "runtime.NumGoroutine") = false ∧ (∀ c, p.2.body = some c → ∀ d ∈ loopsOf c, ∀ f, assoc2 X.loops p.1 (keyOf d) = some f → LoopOk X.P p.1 d f)
  specs : ∀ p ∈ X.specs, Plain X.P p.1 ∧ SpecOk X.P p.1 p.2

theorem frameOf_rep {σ : Env} : ∀ (xs : List AV) (us : List Value), RepL σ xs us → ∀ (n t : Nat), Rep σ (frameOf xs t) ((us ++ List.replicate n undef)[t]?.getD undef)
  | [], us, h, n, t => by
    simp only [RepL] at h; subst h
    simp only [frameOf, Rep, List.nil_append, List.getElem?_replicate]
    split <;> rfl
  | x :: xs, us, h, n, t => by
    simp only [RepL] at h
    obtain ⟨v, us', rfl, h1, h2⟩ := h
    cases t with
    | zero => simpa [frameOf] using h1
    | succ t => simpa [frameOf] using frameOf_rep xs us' h2 n t

theorem results_rep {P : Program} {rd : Bool} {w0 : World} {σ : Env} {s : St} {a : Go.Act} {w : World} (hS : Sat rd w0 σ s a w) : ∀ (rs : List ResultVar) (l : List AV), resultsA P s rs = some l →
    ∃ vs, (rs.mapM fun r => (match r with | .tmp t => pure (a.tmps.getD t undef) | .cell x t => do loadVar t (← asAddr (a.tmps.getD x undef)) : Sem Value)).run P w = .ok vs w ∧ RepL σ l vs
  | [], l, h => by
    simp [resultsA] at h; subst h
    exact ⟨[], rfl, by simp [RepL]⟩
  | .tmp t :: rs, l, h => by
    simp only [resultsA, Option.map_eq_some_iff] at h
    obtain ⟨l', h1, rfl⟩ := h
    obtain ⟨vs, h2, h3⟩ := results_rep hS rs l' h1
    refine ⟨a.tmps.getD t undef :: vs, ?_, by simp only [RepL]; exact ⟨_, _, rfl, hS.tm t, h3⟩⟩
    simp only [List.mapM_cons, Sem.run_bind, Sem.run_pure, Result.andThen_ok, h2]
  | .cell x t :: rs, l, h => by
    have hx := hS.tm x
    simp only [resultsA] at h
    split at h
    · rename_i id row st col agg n h1 h2 h3
      rw [h1] at hx; simp only [Rep] at hx
      obtain ⟨b, hb1, hb2⟩ := hx
      split at h
      · rename_i blk hb
        obtain ⟨m, vs, k1, k2, k3, k4⟩ := hS.h.ob id _ hb
        rw [hb1] at k1; cases k1
        cases agg with
        | true =>
          simp only [cond_true] at h
          cases hl : Nat.ble (row * st + col + n) (lenA blk.cs) with
          | false => simp [hl] at h
          | true =>
            simp only [hl, cond_true, Option.map_eq_some_iff, takeA_eq, dropA_eq] at h
            obtain ⟨l', h4, rfl⟩ := h
            simp only [Nat.ble_eq, lenA_eq] at hl
            obtain ⟨us, h5, h6⟩ := results_rep hS rs l' h4
            refine ⟨.agg ((vs.drop (row * st + col)).take n).toArray :: us, ?_, ?_⟩
            · have := run_loads (P := P) (w := w) (n := n) k2 (by rw [← k3.length]; exact hl)
              have hlv : (loadVar t ⟨b, row * st + col, none⟩).run P w = .ok (.agg ((vs.drop (row * st + col)).take n).toArray) w := by
                simp only [loadVar, Sem.run_bind, Sem.run_pure, Result.andThen_ok, run_agg h2, run_size h3, if_true, this]
              have ha : asAddr (a.tmps.getD x undef) = pure ⟨b, row * st + col, none⟩ := by rw [hb2]; rfl
              simp only [List.mapM_cons, Sem.run_bind, Sem.run_pure, Result.andThen_ok, ha, hlv, h5]
            · simp only [RepL]
              exact ⟨_, _, rfl, by simp only [Rep]; exact ⟨_, (k3.drop _).take _, rfl⟩, h6⟩
        | false =>
          simp only [cond_false, nth_eq] at h
          cases hc : blk.cs[row * st + col]? with
          | none => simp [hc] at h
          | some y =>
            simp only [hc, Option.map_eq_some_iff] at h
            obtain ⟨l', h4, rfl⟩ := h
            obtain ⟨us, h5, h6⟩ := results_rep hS rs l' h4
            obtain ⟨v, hv1, hv2⟩ := k3.get hc
            have hlt : row * st + col < vs.length := (List.getElem?_eq_some_iff.1 hv1).1
            refine ⟨v :: us, ?_, by simp only [RepL]; exact ⟨_, _, rfl, hv2, h6⟩⟩
            have := run_load1 (P := P) (w := w) k2 (show row * st + col + 1 ≤ vs.length by omega)
            simp only [List.getD, hv1, Option.getD_some] at this
            have hlv : (loadVar t ⟨b, row * st + col, none⟩).run P w = .ok v w := by
              simp only [loadVar, Sem.run_bind, Result.andThen_ok, run_agg h2, Bool.false_eq_true, if_false, this]
            have ha : asAddr (a.tmps.getD x undef) = pure ⟨b, row * st + col, none⟩ := by rw [hb2]; rfl
            simp only [List.mapM_cons, Sem.run_bind, Sem.run_pure, Result.andThen_ok, ha, hlv, h5]
      · simp at h
    · simp at h

theorem tup_rep {σ : Env} {l : List AV} {vs : List Value} (h : RepL σ l vs) : Rep σ (tupA l) (if h : vs.toArray.size = 1 then vs.toArray[0] else .tuple vs.toArray) := by
  match l, vs, h with
  | [], vs, h => simp only [RepL] at h; subst h; simp only [tupA, Rep]; exact ⟨[], by simp [RepL], by simp⟩
  | [x], vs, h =>
    simp only [RepL] at h
    obtain ⟨v, us, rfl, h1, rfl⟩ := h
    simpa [tupA] using h1
  | x :: y :: l, vs, h =>
    have hl := h.length
    have : ¬ vs.toArray.size = 1 := by simp at hl ⊢; omega
    rw [dif_neg this]
    simp only [tupA, Rep]
    exact ⟨vs, h, rfl⟩

theorem results_run {P : Program} {rd : Bool} {w0 : World} {σ : Env} {s : St} {a : Go.Act} {w : World} (hS : Sat rd w0 σ s a w) {fn : Func} {l : List AV} (h : resultsA P s fn.results.toList = some l) : ∃ v, (results fn a.tmps).run P w = .ok v w ∧ Rep σ (tupA l) v := by
  obtain ⟨vs, h1, h2⟩ := results_rep hS _ _ h
  refine ⟨_, ?_, tup_rep h2⟩
  unfold results
  rw [Array.mapM_eq_mapM_toList]
  simp only [Sem.run_bind, Sem.run_map, Sem.run_pure]
  have key : ∀ F : ResultVar → Sem Value, (∀ r, F r = (match r with | .tmp t => pure (a.tmps.getD t undef) | .cell x t => do loadVar t (← asAddr (a.tmps.getD x undef)))) → (fn.results.toList.mapM F).run P w = .ok vs w := fun F hF => by
    rw [show F = _ from funext hF]; exact h1
  rw [key _ (fun r => by cases r <;> rfl)]
  rfl

/-! a call of a function with a summary by data: lists of the call's own are read as they stand -/
open Classical in
theorem ro1_rep {P : Program} {B : Nat} {σ : Env} {hp : Heap} {nx : Nat} {w : World} (h : HRel B σ hp nx w) (ids : List Nat) {x : AV} {v : Value} (hx : Rep σ x v) (hi : ∀ i ∈ ids1 x, i ∈ ids) : Rep { σ with mem := frozen σ hp ids w } (ro1 P hp x) v := by
  have hext : Ext σ { σ with mem := frozen σ hp ids w } := ⟨fun _ _ h => h, frozen_ge h ids, fun _ _ h => h, rfl, rfl, rfl⟩
  cases x with
  | own id =>
    simp only [ro1]
    split
    · rename_i A hA
      obtain ⟨v', us, h1, h2, h3, h4, h5⟩ := h.ob id _ hA
      simp only [Rep] at hx ⊢
      have e : v' = v := Option.some.inj (h1.symm.trans hx.1)
      subst e
      have hul := LR.len (fun x vs => RepD.len A.c x vs) h3
      refine slD_mk ?_
      rcases h2.2 with ⟨rfl, k⟩ | ⟨g, cap, cur, rfl, k2, k3, k4, k5, k6, k7⟩
      · exact .inl ⟨rfl, List.eq_nil_of_length_eq_zero k⟩
      · simp only [maxLen] at k5
        refine .inr ⟨g, 0, none, cap, us, rfl, k4, by simp only [maxK]; omega, ⟨.inr rfl, fun j u hj => ?_⟩, LR.mono (fun x vs => RepD.mono (frozen_ge h ids) _ x vs) h3⟩
        show frozen σ hp ids w g (0 + j) = some u
        unfold frozen
        rw [if_pos ⟨id, hi id (by simp [ids1]), by rw [hA]; simp, (h5 g).1 rfl⟩]
        have := h2.cells (g := g) rfl j u hj
        rwa [Addr.add_lit] at this
    · exact hx.mono hext
  | sl id off st len cap =>
    simp only [ro1]
    split
    · rename_i b hb
      split
      · rename_i c hc
        cases hbb : (Nat.beq st c.size && Nat.ble (off + len * st) (lenA b.cs)) with
        | false => simp only [cond_false]; exact hx.mono hext
        | true =>
          simp only [cond_true]
          simp only [Bool.and_eq_true, Nat.beq_eq, Nat.ble_eq, lenA_eq] at hbb
          obtain ⟨hb1, hb2⟩ := hbb
          split
          · rename_i xs hxs
            subst hb1
            obtain ⟨n, vs, h1, h2, h3, h4⟩ := h.ob id _ hb
            simp only [Rep] at hx ⊢
            obtain ⟨hlc, hcap, b', hb', rfl⟩ := hx
            rw [h1] at hb'; cases hb'
            simp only [takeA_eq, dropA_eq] at hxs
            have hcl : ((b.cs.drop off).take (len * c.size)).length = len * c.size := by simp; omega
            obtain ⟨k1, k2⟩ := decRows_rep len _ _ xs hxs ((h3.drop off).take _) hcl
            refine slD_mk (.inr ⟨n, off, none, cap, _, by rw [k2], ?_, hcap, ⟨.inr rfl, fun j u hj => ?_⟩, LR.mono (fun x vs => RepD.mono (frozen_ge h ids) _ x vs) k1⟩)
            · rw [k2]; exact hlc.2
            · show frozen σ hp ids w n (off + j) = some u
              unfold frozen
              rw [if_pos ⟨id, hi id (by simp [ids1]), by rw [hb]; simp, h1⟩, cell_of_row w n (off + j) vs.toArray b.ty (0, 0) h2]
              rw [List.getElem?_take] at hj
              split at hj
              · rw [List.getElem?_drop] at hj; simpa using hj
              · simp at hj
          · exact hx.mono hext
      · exact hx.mono hext
    · exact hx.mono hext
  | _ => simp only [ro1]; exact hx.mono hext
theorem toRO_rep {P : Program} {B : Nat} {σ : Env} {hp : Heap} {nx : Nat} {w : World} (h : HRel B σ hp nx w) (ids : List Nat) {x : AV} {v : Value} (hx : Rep σ x v) (hi : ∀ i ∈ idsOf x, i ∈ ids) : Rep { σ with mem := frozen σ hp ids w } (toRO P hp x) v := by
  cases x with
  | agg cs =>
    simp only [toRO, Rep] at hx ⊢
    obtain ⟨vs, h1, h2⟩ := hx
    refine ⟨vs, ?_, h2⟩
    have hi' : ∀ y ∈ cs, ∀ i ∈ ids1 y, i ∈ ids := fun y hy i hii => hi i (by simp only [idsOf, List.mem_flatMap]; exact ⟨y, hy, hii⟩)
    clear h2 hi
    induction cs generalizing vs with
    | nil => simpa only [List.map_nil, RepL] using h1
    | cons y ys ih =>
      simp only [List.map_cons, RepL] at h1 ⊢
      obtain ⟨u, us, rfl, k1, k2⟩ := h1
      exact ⟨u, us, rfl, ro1_rep h ids k1 (hi' y (by simp)), ih us k2 (fun z hz => hi' z (by simp [hz]))⟩
  | _ => simp only [toRO]; exact ro1_rep h ids hx hi
theorem toROs_rep {P : Program} {B : Nat} {σ : Env} {hp : Heap} {nx : Nat} {w : World} (h : HRel B σ hp nx w) (ids : List Nat) : ∀ {xs : List AV} {us : List Value}, RepL σ xs us → (∀ x ∈ xs, ∀ i ∈ idsOf x, i ∈ ids) → RepL { σ with mem := frozen σ hp ids w } (xs.map (toRO P hp)) us
  | [], _, hu, _ => by simpa only [List.map_nil, RepL] using hu
  | x :: xs, us, hu, hi => by
    simp only [List.map_cons, RepL] at hu ⊢
    obtain ⟨v, us', rfl, k1, k2⟩ := hu
    exact ⟨v, us', rfl, toRO_rep h ids k1 (hi x (by simp)), toROs_rep h ids k2 (fun y hy => hi y (by simp [hy]))⟩
theorem ro1s_rep {P : Program} {B : Nat} {σ : Env} {hp : Heap} {nx : Nat} {w : World} (h : HRel B σ hp nx w) (ids : List Nat) : ∀ {cs : List AV} {vs : List Value}, RepL σ cs vs → (∀ y ∈ cs, ∀ i ∈ ids1 y, i ∈ ids) → RepL { σ with mem := frozen σ hp ids w } (cs.map (ro1 P hp)) vs
  | [], vs, h1, _ => by simpa only [List.map_nil, RepL] using h1
  | y :: ys, vs, h1, hi' => by
    simp only [List.map_cons, RepL] at h1 ⊢
    obtain ⟨u, us, rfl, k1, k2⟩ := h1
    exact ⟨u, us, rfl, ro1_rep h ids k1 (hi' y (by simp)), ro1s_rep h ids k2 (fun z hz => hi' z (by simp [hz]))⟩
theorem viewA_cases {P : Program} {B : Nat} {σ : Env} {hp : Heap} {nx : Nat} {w : World} (h : HRel B σ hp nx w) (ids : List Nat) (vw : Option (TC × Nat)) {x : AV} {v : Value} (hx : Rep σ x v) (hi : ∀ i ∈ viewIds hp vw x, i ∈ ids) :
    viewA P hp vw x = x ∨ ∃ c y o, viewA P hp vw x = .rop c y o ∧ Rep { σ with mem := frozen σ hp ids w } (.rop c y o) v := by
  unfold viewA
  split
  · rename_i c o id row st col
    split
    · rename_i b hb
      cases hbb : (Nat.ble o (row * st + col) && Nat.ble (row * st + col - o + c.size) (lenA b.cs)) with
      | false => exact .inl rfl
      | true =>
        simp only [cond_true]
        simp only [Bool.and_eq_true, Nat.ble_eq, lenA_eq] at hbb
        obtain ⟨hb1, hb2⟩ := hbb
        split
        · rename_i y hy
          simp only [viewIds, hb] at hi
          obtain ⟨n, vs, h1, h2, h3, h4⟩ := h.ob id _ hb
          simp only [Rep] at hx
          obtain ⟨n', hn', rfl⟩ := hx
          rw [h1] at hn'; cases hn'
          simp only [takeA_eq, dropA_eq] at hy
          have hro := ro1s_rep (P := P) h ids ((h3.drop (row * st + col - o)).take c.size) (fun z hz i hii => hi i (List.mem_cons_of_mem _ (List.mem_flatMap.2 ⟨z, List.mem_of_mem_drop (List.mem_of_mem_take hz), hii⟩)))
          have hd := dec_all hy hro
          refine .inr ⟨c, y, o, rfl, ?_⟩
          simp only [Rep]
          refine ⟨n, row * st + col - o, _, ?_, fun j u hju => ?_, hd⟩
          · rw [show row * st + col - o + o = row * st + col by omega]
          · show frozen σ hp ids w n (row * st + col - o + j) = some u
            unfold frozen
            rw [if_pos ⟨id, hi id (by simp), by rw [hb]; simp, h1⟩, cell_of_row w n _ vs.toArray b.ty (0, 0) h2]
            rw [List.getElem?_take] at hju
            split at hju
            · rw [List.getElem?_drop] at hju; simpa using hju
            · simp at hju
        · exact .inl rfl
    · exact .inl rfl
  · exact .inl rfl
theorem frozen_ext {B : Nat} {σ : Env} {hp : Heap} {nx : Nat} {w : World} (h : HRel B σ hp nx w) (ids : List Nat) : Ext σ { σ with mem := frozen σ hp ids w } := ⟨fun _ _ h => h, frozen_ge h ids, fun _ _ h => h, rfl, rfl, rfl⟩
theorem viewC_rep {P : Program} {B : Nat} {σ : Env} {hp : Heap} {nx : Nat} {w : World} (h : HRel B σ hp nx w) (ids : List Nat) : ∀ (vs : List (Option (TC × Nat))) {xs : List AV} {us : List Value}, RepL σ xs us → (∀ i ∈ viewCIds hp vs xs, i ∈ ids) → RepL { σ with mem := frozen σ hp ids w } (viewC P hp vs xs) us
  | [], xs, us, hu, _ => by
    have : viewC P hp [] xs = xs := by cases xs <;> rfl
    rw [this]
    exact hu.mono (frozen_ext h ids)
  | v :: vs, [], us, hu, _ => by simpa only [viewC, RepL] using hu
  | v :: vs, x :: xs, us, hu, h2 => by
    simp only [RepL] at hu
    obtain ⟨u, us', rfl, k1, k2⟩ := hu
    simp only [viewC, RepL]
    refine ⟨u, us', rfl, ?_, viewC_rep h ids vs k2 (fun i hi => h2 i (by simp only [viewCIds]; exact List.mem_append_right _ hi))⟩
    rcases viewA_cases (P := P) h ids v k1 (fun i hi => h2 i (by simp only [viewCIds]; exact List.mem_append_left _ hi)) with e | ⟨c, y, o, e, hr⟩
    · rw [e]; exact k1.mono (frozen_ext h ids)
    · rw [e]; exact hr
theorem viewV_rep {P : Program} {B : Nat} {σ : Env} {hp : Heap} {nx : Nat} {w : World} (h : HRel B σ hp nx w) (ids : List Nat) (vw : Vw) {x : AV} {v : Value} (hx : Rep σ x v) (hi : ∀ i ∈ viewVIds hp vw x, i ∈ ids) (hj : ∀ i ∈ idsOf x, i ∈ ids) : Rep { σ with mem := frozen σ hp ids w } (toRO P hp (viewV P hp vw x)) v := by
  have other : Rep { σ with mem := frozen σ hp ids w } (toRO P hp x) v := toRO_rep h ids hx hj
  unfold viewV
  split
  · rename_i vw
    rcases viewA_cases (P := P) h ids vw hx hi with e | ⟨c, y, o, e, hr⟩
    · rw [e]; exact other
    · rw [e]; exact hr
  · rename_i vs f a c
    simp only [toRO, ro1]
    simp only [Rep] at hx ⊢
    obtain ⟨p, q, k1, k2, k3⟩ := hx
    exact ⟨p, q, k1.mono (frozen_ext h ids), viewC_rep h ids vs k2 hi, k3⟩
  · exact other
theorem toRVs_rep {P : Program} {B : Nat} {σ : Env} {hp : Heap} {nx : Nat} {w : World} (h : HRel B σ hp nx w) (ids : List Nat) : ∀ (vs : List Vw) {xs : List AV} {us : List Value}, RepL σ xs us → (∀ i ∈ xs.flatMap idsOf, i ∈ ids) → (∀ i ∈ viewLIds hp vs xs, i ∈ ids) → RepL { σ with mem := frozen σ hp ids w } ((viewL P hp vs xs).map (toRO P hp)) us
  | [], xs, us, hu, h1, _ => by
    have : viewL P hp [] xs = xs := by cases xs <;> rfl
    rw [this]
    exact toROs_rep h ids hu fun y hy i hi => h1 i (List.mem_flatMap.2 ⟨y, hy, hi⟩)
  | v :: vs, [], us, hu, _, _ => by simpa only [viewL, List.map_nil, RepL] using hu
  | v :: vs, x :: xs, us, hu, h1, h2 => by
    simp only [RepL] at hu
    obtain ⟨u, us', rfl, k1, k2⟩ := hu
    simp only [viewL, List.map_cons, RepL]
    refine ⟨u, us', rfl, viewV_rep h ids v k1 (fun i hi => h2 i (by simp only [viewLIds]; exact List.mem_append_left _ hi)) (fun i hi => h1 i (by simp only [List.flatMap_cons]; exact List.mem_append_left _ hi)), toRVs_rep h ids vs k2 (fun i hi => h1 i (by simp only [List.flatMap_cons]; exact List.mem_append_right _ hi)) (fun i hi => h2 i (by simp only [viewLIds]; exact List.mem_append_right _ hi))⟩

theorem drop1_sub : ∀ (ids : List Nat) (hp : Heap) (j : Nat) (o : Ob), drop1 hp ids j = some o → hp j = some o ∧ j ∉ ids
  | [], _, _, _, h => ⟨h, by simp⟩
  | id :: ids, hp, j, o, h => by
    obtain ⟨h1, h2⟩ := drop1_sub ids (upd hp id none) j o h
    by_cases hj : j = id
    · subst hj; rw [upd_same] at h1; cases h1
    · rw [upd_other _ _ hj] at h1
      exact ⟨h1, by simp [hj, h2]⟩
theorem pure_sound {P : Program} {f : FuncId} {g : PureT} (hg : PureOk P f g) {α : Type} {R : α → Prop} {w0 : World} {σ : Env} {hp : Heap} {nx : Nat} {w : World} {xs : List AV} {us : List Value} {x : AV} {K : Out → Heap → Nat → Tree α}
    (hh : HRel w0.heap.size σ hp nx w) (hb : Below w0.heap.size w0 w) (hu : RepL σ xs us) (hx : g.run ((viewL P hp g.vw xs).map (toRO P hp)) = some (true, x)) (h : (K (.ret x) (bif g.flat then hp else drop1 hp (xs.flatMap idsOf ++ viewLIds hp g.vw xs)) nx).sat R) :
    Calls' P f us.toArray w (CRes w0 σ K R) := by
  have hro := toRVs_rep (P := P) hh (xs.flatMap idsOf ++ viewLIds hp g.vw xs) g.vw hu (fun i hi => List.mem_append_left _ hi) (fun i hi => List.mem_append_right _ hi)
  generalize xs.flatMap idsOf ++ viewLIds hp g.vw xs = ids at hro h
  refine (hg { σ with mem := frozen σ hp ids w } w _ us x hh.bound (frozen_ok hh _) hro hx).mono ?_
  rintro e w' ⟨v, m', rfl, m1, m2, m3, m4, m5, m6⟩
  have hB := hb.trans (m6.mono hb.size)
  cases hf : g.flat with
  | true =>
    rw [hf, cond_true] at h
    exact ⟨.ret x, σ, hp, nx, Ext.refl _, hh.below m6, hB, m5 hf σ (fun _ _ h => h), h⟩
  | false =>
    rw [hf, cond_false] at h
    have he : Ext σ { σ with mem := m' } := ⟨fun _ _ h => h, fun b o u hu => m2 b o u (frozen_ge hh _ b o u hu), fun _ _ h => h, rfl, rfl, rfl⟩
    have hlive : ∀ j, drop1 hp (ids) j ≠ none → hp j ≠ none ∧ j ∉ ids := by
      intro j hj
      cases hc : drop1 hp (ids) j with
      | none => exact absurd hc hj
      | some o => obtain ⟨k1, k2⟩ := drop1_sub _ _ _ _ hc; exact ⟨by rw [k1]; simp, k2⟩
    have hb' := hh.below m6
    refine ⟨.ret x, { σ with mem := m' }, drop1 hp (ids), nx, he, ⟨fun j o hj => ?_, fun i j n hi hj => hh.inj i j n (hlive i hi).1 (hlive j hj).1, fun i hi => ?_, hb'.bound, m1, fun i n hi hn o => ?_, fun b o v hv hlt => ?_, ⟨hb'.kp.sz, hb'.kp.ok, fun i n hi hn => hb'.kp.sep i n (hlive i hi).1 hn, fun n o v hv => ?_⟩⟩, hB, Rep.mono3 (σ := ⟨fun _ => none, m', fun _ => none, fun _ _ => none, fun _ => none, 0⟩) (τ := { σ with mem := m' }) ⟨fun i b h => (by cases h), fun _ _ _ h => h, fun i u h => (by cases h)⟩ x v (m4 hf), h⟩
    · exact (hb'.ob j o (drop1_sub _ _ _ _ hj).1).keep he rfl (fun _ _ => rfl)
    · obtain ⟨f1, f2, f3⟩ := hh.fresh i hi
      refine ⟨f1, f2, ?_⟩
      cases hc : drop1 hp (ids) i with
      | none => rfl
      | some o => rw [(drop1_sub _ _ _ _ hc).1] at f3; cases f3
    · have hl := hlive i hi
      cases hc : m' n o with
      | none => exact hc
      | some u =>
        rcases m3 n o u hc with k | k
        · exfalso
          simp only [frozen] at k
          split at k
          · rename_i hex
            obtain ⟨id, hid, hne, hat⟩ := hex
            have := hh.inj i id n hl.1 hne hn hat
            subst this
            exact hl.2 hid
          · rw [hh.sep i n hl.1 hn o] at k; cases k
        · have := hh.bound i n hn; omega
    · rcases m3 b o v hv with k | k
      · simp only [frozen] at k
        split at k
        · rename_i hex
          obtain ⟨id, hid, hne, hat⟩ := hex
          have := hh.ge hne hat
          omega
        · exact hh.low b o v k hlt
      · have := hb.size; omega
    · rcases m3 n o v hv with k | k
      · simp only [frozen] at k
        split at k
        · rename_i hex
          obtain ⟨id, hid, hne, hat⟩ := hex
          exact hh.kp.sep id n hne hat
        · exact hh.kp.mem n o v k
      · exact kp_new hh.kp k

theorem dfl_nil {σ : Env} {Ds : List Deferred} (h : DfL σ [] Ds) : Ds = [] := by cases h; rfl
/-- what panicked, in both ways to say it -/
def MRel (τ : Env) : Option AV → FrameMode → Prop
  | none, m => m = .returning
  | some x, m => ∃ v, Rep τ x v ∧ m = .panicking [{ v, recovered := false }]
theorem MRel.mono {σ τ : Env} (e : Ext σ τ) {x : Option AV} {m : FrameMode} (h : MRel σ x m) : MRel τ x m := by
  cases x with
  | none => exact h
  | some x => obtain ⟨v, h1, h2⟩ := h; exact ⟨v, h1.mono e, h2⟩
theorem MRel.run {σ : Env} {x : Option AV} {m : FrameMode} (h : MRel σ x m) : m ≠ .run := by
  cases x with
  | none => rw [show m = .returning from h]; simp
  | some x => obtain ⟨v, _, rfl⟩ := h; simp

theorem wpR_mono {P : Program} {fn : FuncId} {u u' : FrameMode} {c : Code} {Q Q' : Exit → Go.Act → World → Prop} {a : Go.Act} {w : World} (h : Code.wpR P fn u u' c Q a w) (hq : ∀ e a w, Q e a w → Q' e a w) : Code.wpR P fn u u' c Q' a w :=
  fun b k c0 cs h1 h2 h3 h4 => let ⟨e, a', w', q, r⟩ := h b k c0 cs h1 h2 h3 h4; ⟨e, a', w', hq _ _ _ q, r⟩
theorem evRec_sound {P : Program} {α : Type} {R : α → Prop} {cT : CallT α} (hmix : P.follows .mixedOrders = true) {pu : List (Nat × PureT)} (hpu : PuOk P pu) (hc : CTok P cT R) {w0 : World} (fn : FuncId) (n : Nat) (L : LoopT) {rx : AV} {rv : Value} {u u' : FrameMode} (hu : RecOk u rv u') : ∀ (c : Code) (_ : ∀ d ∈ loopsOf c, ∀ f, L (keyOf d) = some f → LoopOk P fn d f) (σ : Env) (s : St) (a : Go.Act) (w : World) (K : XE → St → Tree α),
    Sat false w0 σ s a w → Rep σ rx rv → (evRec P cT pu fn n L rx c s K).sat R → Code.wpR P fn u u' c (XRes false w0 σ fun x s' => (K x s').sat R) a w
  | .seq x y, hL, σ, s, a, w, K, hS, hr, h => by
    simp only [evRec] at h
    have h1 := evRec_sound hmix hpu hc fn n L hu x (fun d hd => hL d (by simp [loopsOf, hd])) σ s a w _ hS hr h
    refine wpR_seq (wpR_mono h1 ?_)
    rintro e a' w' ⟨τ, x', s', he, hS', hx, h'⟩
    cases x' <;> cases e <;> simp only [ExR] at hx <;> simp only at h'
    · have h2 := evC_sound hmix hpu hc fn n L y (fun d hd => hL d (by simp [loopsOf, hd])) τ s' a' w' K hS' h'
      exact wpX_mono h2 fun e a2 w2 ⟨τ2, x2, s2, e2, hS2, hx2, h2⟩ => ⟨τ2, x2, s2, he.trans e2, hS2, hx2, h2⟩
    · exact ⟨τ, .exit _, s', he, hS', hx, h'⟩
    · exact ⟨τ, .ret, s', he, hS', trivial, h'⟩
    · exact ⟨τ, .panic _, s', he, hS', hx, h'⟩
  | .block id c, hL, σ, s, a, w, K, hS, hr, h => by
    simp only [evRec] at h
    have h1 := evRec_sound hmix hpu hc fn n L hu c (fun d hd => hL d (by simpa [loopsOf] using hd)) σ s a w _ hS hr h
    refine wpR_block (wpR_mono h1 ?_)
    rintro e a' w' ⟨τ, x', s', he, hS', hx, h'⟩
    cases x' <;> cases e <;> simp only [ExR] at hx <;> simp only at h'
    · exact ⟨τ, .normal, s', he, hS', trivial, h'⟩
    · rename_i i j
      subst hx
      simp only [Exit.inBlock]
      by_cases hid : i = id
      · subst hid
        rw [if_pos rfl]
        exact ⟨τ, .normal, s', he, hS', trivial, by simpa using h'⟩
      · rw [if_neg hid]
        exact ⟨τ, .exit i, s', he, hS', rfl, by simpa [beq_ne hid] using h'⟩
    · exact ⟨τ, .ret, s', he, hS', trivial, h'⟩
    · exact ⟨τ, .panic _, s', he, hS', hx, h'⟩
  | .region id ops false, _, σ, s, a, w, K, hS, hr, h => by
    simp only [evRec] at h
    cases ho : ops[0]? with
    | none => rw [ho] at h; simp [Tree.sat] at h
    | some o =>
      rw [ho] at h
      simp only at h
      cases hb : (isRec o.op && (o.guard.isNone && Nat.blt (o.dst.getD 0) s.n)) with
      | false => rw [hb] at h; simp [Tree.sat] at h
      | true =>
        rw [hb, cond_true] at h
        simp only [Bool.and_eq_true, Option.isNone_iff_eq_none, blt_t] at hb
        exact wpR_region hu ho hb.2.1 hb.1 (evOps_sound hc _ σ _ _ w (hS.put hb.2.2 hr) h (fun τ s' a' w' e ex he hS' hx h' => ⟨τ, e, s', he, hS', hx, h'⟩))
  | .region _ _ true, _, _, _, _, _, _, _, _, h => by simp [evRec, Tree.sat] at h
  | .skip, _, _, _, _, _, _, _, _, h => by simp [evRec, Tree.sat] at h
  | .cond _ _ _, _, _, _, _, _, _, _, _, h => by simp [evRec, Tree.sat] at h
  | .loop _, _, _, _, _, _, _, _, _, h => by simp [evRec, Tree.sat] at h
  | .exit _, _, _, _, _, _, _, _, _, h => by simp [evRec, Tree.sat] at h
  | .ret, _, _, _, _, _, _, _, _, h => by simp [evRec, Tree.sat] at h
  | .rangeFunc _ _ _ _, _, _, _, _, _, _, _, _, h => by simp [evRec, Tree.sat] at h
  | .scope _, _, _, _, _, _, _, _, _, h => by simp [evRec, Tree.sat] at h
  | .label _, _, _, _, _, _, _, _, _, h => by simp [evRec, Tree.sat] at h
  | .goto _, _, _, _, _, _, _, _, _, h => by simp [evRec, Tree.sat] at h
  | .refuse _, _, _, _, _, _, _, _, _, h => by simp [evRec, Tree.sat] at h

/-- a deferred call, from the frame that makes it to that frame again -/
theorem def_sound {X : Ctx} (hX : CtxOk X) {α : Type} {R : α → Prop} {cT : CallT α} (hc : CTok X.P cT R) {w0 : World} {σ : Env} {hp : Heap} {nx : Nat} {w : World} {f : FuncId} {xs : List AV} {us : List Value} {rx : AV} {rv : Value} {u u' : FrameMode} {K : Heap → Nat → Tree α} (hu : RecOk u rv u')
    (hh : HRel w0.heap.size σ hp nx w) (hb : Below w0.heap.size w0 w) (hus : RepL σ xs us) (hr : Rep σ rx rv) (h : (evDef X cT f xs rx hp nx K).sat R) (c0 : Frame) (cs : List Frame) (hm : c0.mode = u) :
    ∃ τ w' hp' nx', Steps X.P (lone (Frame.enter X.P f us.toArray .deferred) (c0 :: cs) w) (lone { c0 with mode := .returning } cs w') ∧ Ext σ τ ∧ HRel w0.heap.size τ hp' nx' w' ∧ Below w0.heap.size w0 w' ∧ (K hp' nx').sat R := by
  unfold evDef at h
  cases hf : assoc X.fns f with
  | none => simp [hf, Tree.sat] at h
  | some fn =>
    simp only [hf] at h
    obtain ⟨h1, h2, h3⟩ := hX.fns _ (assoc_mem hf)
    simp only at h1 h2 h3
    cases hbd : fn.body with
    | none => simp [hbd, Tree.sat] at h
    | some c =>
      simp only [hbd] at h
      cases hn : Nat.ble (lenA xs) fn.ntmps with
      | false => simp [hn, Tree.sat] at h
      | true =>
        simp only [hn, cond_true] at h
        simp only [Nat.ble_eq, lenA_eq] at hn
        have hlen := hus.length
        have hS : Sat false w0 σ { tm := frameOf xs, n := fn.ntmps, hp := hp, nx := nx, df := [], rd := false } { tmps := us.toArray ++ Array.replicate (fn.ntmps - us.toArray.size) undef, defers := [] } w := by
          refine ⟨hh, fun t => ?_, ?_, .nil, hb, rfl⟩
          · have := frameOf_rep xs us hus (fn.ntmps - us.toArray.size) t
            have he : (us.toArray ++ Array.replicate (fn.ntmps - us.toArray.size) undef).getD t undef = (us ++ List.replicate (fn.ntmps - us.toArray.size) undef)[t]?.getD undef := by
              rw [Array.getD_eq_getD_getElem?, ← Array.getElem?_toList]
              simp
            rw [he]; exact this
          · simp; omega
        have hw := evRec_sound hX.mix hX.pures hc f X.u (assoc2 X.loops f) hu c (fun d hd g hg => h3 c hbd d hd g hg) σ _ _ w _ hS hr h
        let b : Frame := { (default : Frame) with fn := f, kind := .deferred }
        have henter : Frame.enter X.P f us.toArray .deferred = atX b { tmps := us.toArray ++ Array.replicate (fn.ntmps - us.toArray.size) undef, defers := [] } [.code c] := by
          simp [Frame.enter, atX, h1, hbd, b]
          rfl
        rw [henter]
        obtain ⟨e, a', w', ⟨τ, x, s', he, hS', hx, h'⟩, harr⟩ := hw b [] c0 cs rfl rfl rfl hm
        have hfin : ∀ (todo : List Item), Steps X.P (lone (atX b { tmps := us.toArray ++ Array.replicate (fn.ntmps - us.toArray.size) undef, defers := [] } [.code c]) (c0 :: cs) w) (lone { atX b a' todo with mode := .returning } ({ c0 with mode := u' } :: cs) w') →
            (match s'.df, resultsA X.P s' fn.results.toList with | [], some _ => K s'.hp s'.nx | _, _ => .fail).sat R →
            ∃ τ w' hp' nx', Steps X.P (lone (atX b { tmps := us.toArray ++ Array.replicate (fn.ntmps - us.toArray.size) undef, defers := [] } [.code c]) (c0 :: cs) w) (lone { c0 with mode := .returning } cs w') ∧ Ext σ τ ∧ HRel w0.heap.size τ hp' nx' w' ∧ Below w0.heap.size w0 w' ∧ (K hp' nx').sat R := by
          intro todo hs hk
          split at hk <;> try (simp [Tree.sat] at hk; done)
          rename_i l hdf hres
          have hd' : a'.defers = [] := by
            have := hS'.df
            rw [hdf] at this
            exact dfl_nil this
          obtain ⟨v, hv1, _⟩ := results_run hS' hres
          have hg : ({ atX b a' todo with mode := .returning } : Frame).going X.P w' (.returned v) := ⟨rfl, hd', fn, h1, hv1⟩
          have hs2 := step_going_returned (P := X.P) (c := { c0 with mode := u' }) (cs := cs) (by rfl) hg
          simp only [hu.settle] at hs2
          exact ⟨τ, w', s'.hp, s'.nx, Steps.trans hs (.one hs2), he, hS'.h, hS'.bl, hk⟩
        have hret : ∀ (todo : List Item), (todo = [] ∨ ∃ k1, todo = .code .ret :: k1) → step X.P (lone (atX b a' todo) ({ c0 with mode := u' } :: cs) w') = .next (lone { atX b a' todo with mode := .returning } ({ c0 with mode := u' } :: cs) w') := by
          intro todo ht
          have hb0 : b.roundOf = none := rfl
          rcases ht with rfl | ⟨k1, rfl⟩ <;> exact step_lone_go (by simp [stepG, stepG.exec, atX, hb0])
        cases x <;> cases e <;> simp only [ExR] at hx <;> simp only at h'
        · exact hfin [] (Steps.trans harr (.one (hret _ (.inl rfl)))) h'
        · simp [Tree.sat] at h'
        · obtain ⟨k1, hs⟩ := harr
          exact hfin _ (Steps.trans hs (.one (hret _ (.inr ⟨k1, rfl⟩)))) h'
        · simp [Tree.sat] at h'

/-! a function that is left -/
theorem leave_sound {X : Ctx} (hX : CtxOk X) {α : Type} {R : α → Prop} {cT : CallT α} (hc : CTok X.P cT R) {w0 : World} : ∀ (ds : List DfA) (DS : List Deferred) (σ : Env) (m : Option AV) (hp : Heap) (nx : Nat) (w : World) (fr : Frame) (K : Option AV → Heap → Nat → Tree α), MRel σ m fr.mode → fr.defers = DS → DfL σ ds DS →
    HRel w0.heap.size σ hp nx w → Below w0.heap.size w0 w → (evLeave X cT ds m hp nx K).sat R → ∀ cs, ∃ τ w' m' mode' hp' nx', Steps X.P (lone fr cs w) (lone { fr with defers := [], mode := mode' } cs w') ∧ Ext σ τ ∧ MRel τ m' mode' ∧ HRel w0.heap.size τ hp' nx' w' ∧ Below w0.heap.size w0 w' ∧ (K m' hp' nx').sat R
  | [], DS, σ, m, hp, nx, w, fr, K, hm, hd, hD, hh, hb, h, cs => by
    cases hD
    refine ⟨σ, w, m, fr.mode, hp, nx, ?_, Ext.refl σ, hm, hh, hb, h⟩
    have : ({ fr with defers := [], mode := fr.mode } : Frame) = fr := by rw [← hd]
    rw [this]
    exact Steps.refl X.P _
  | .mark id :: ds, DS, σ, m, hp, nx, w, fr, K, hm, hd, hD, hh, hb, h, cs => by
    cases hD with
    | cons hD1 hD2 =>
      rename_i D Ds
      obtain ⟨b, hb1, rfl⟩ := hD1
      simp only [evLeave] at h
      split at h <;> try (simp [Tree.sat] at h; done)
      rename_i ho
      obtain ⟨n, k1, k2, k3⟩ := hh.ob id _ ho
      have hnb : n = b := Option.some.inj (k1.symm.trans hb1)
      subst hnb
      have s1 := step_collected (P := X.P) (cs := cs) hm.run hd rfl (run_takeDeferred (P := X.P) k2)
      obtain ⟨τ, w', m', mode', hp', nx', s2, r0, r1, r2, r3, r4⟩ := leave_sound hX hc ds Ds σ m (upd hp id none) nx _ { fr with defers := [] ++ Ds } K hm rfl hD2 (hh.gone (by rw [ho]; simp) k1 _) (below_putObj hb k3 _) h cs
      exact ⟨τ, w', m', mode', hp', nx', .head s1 s2, r0, r1, r2, r3, r4⟩
  | .call f args cap :: ds, DS, σ, m, hp, nx, w, fr, K, hm, hd, hD, hh, hb, h, cs => by
    cases hD with
    | cons hD1 hD2 =>
      rename_i D Ds
      obtain ⟨us, ks, e1, e2, rfl⟩ := hD1
      simp only [evLeave] at h
      have hpl : Plain X.P f := by
        unfold evDef at h
        cases hf : assoc X.fns f with
        | none => simp [hf, Tree.sat] at h
        | some fn =>
          obtain ⟨h1, h2, _⟩ := hX.fns _ (assoc_mem hf)
          simp only at h1 h2
          cases hbd : fn.body with
          | none => simp [hf, hbd, Tree.sat] at h
          | some c => exact ⟨fn, h1, h2, by simp [hbd]⟩
      have hi : (invoke (.fn (.func f) ks.toArray) us.toArray).run X.P w = .ok (.enter f (us ++ ks).toArray) w := by
        have := hpl.run (us ++ ks).toArray w
        simpa [invoke] using this
      have s1 := step_defer (P := X.P) (cs := cs) hm.run hd rfl hi
      have hrec : ∃ rv u', RecOk fr.mode rv u' ∧ Rep σ (toldA m) rv := by
        cases m with
        | none => rw [show fr.mode = .returning from hm]; exact ⟨_, _, .calm, by simp only [toldA, Rep]⟩
        | some x => obtain ⟨v, k1, k2⟩ := hm; rw [k2]; exact ⟨v, _, .pan v, k1⟩
      obtain ⟨rv, u', hu, hr⟩ := hrec
      obtain ⟨τ, w1, hp1, nx1, s2, t1, t2, t3, t4⟩ := def_sound hX hc hu hh hb (e1.append e2) hr h { fr with defers := Ds } cs rfl
      obtain ⟨τ', w', m', mode', hp', nx', s3, r0, r1, r2, r3, r4⟩ := leave_sound hX hc ds Ds τ none hp1 nx1 w1 { fr with defers := Ds, mode := .returning } K rfl rfl (hD2.mono t1) t2 t3 t4 cs
      exact ⟨τ', w', m', mode', hp', nx', Steps.trans (.head s1 s2) s3, t1.trans r0, r1, r2, r3, r4⟩

theorem pairs2_rep {σ : Env} : ∀ (ps : List Nat) (xs : List AV) (us : List Value) (tm : Nat → AV) (tmps : Array Value), RepL σ xs us → ps.length = xs.length → (∀ t, Rep σ (tm t) (tmps.getD t undef)) → (∀ p ∈ ps, p < tmps.size) →
    (∀ t, Rep σ (pairs2 ps xs tm t) (((ps.zip us).foldl (fun tmps (p : Nat × Value) => tmps.setIfInBounds p.1 p.2) tmps).getD t undef)) ∧ ((ps.zip us).foldl (fun tmps (p : Nat × Value) => tmps.setIfInBounds p.1 p.2) tmps).size = tmps.size
  | [], xs, us, tm, tmps, _, _, ht, _ => by simpa [pairs2] using ht
  | p :: ps, [], us, tm, tmps, _, hl, _, _ => by simp at hl
  | p :: ps, x :: xs, us, tm, tmps, hu, hl, ht, hp => by
    simp only [RepL] at hu
    obtain ⟨v, us', rfl, h1, h2⟩ := hu
    have hlt := hp p (by simp)
    have ih := pairs2_rep ps xs us' (upd tm p x) (tmps.setIfInBounds p v) h2 (by simpa using hl) (fun t => tm_put ht p hlt h1 t) (fun q hq => by simpa using hp q (by simp [hq]))
    simp only [pairs2, List.zip_cons_cons, List.foldl_cons]
    exact ⟨ih.1, by simpa using ih.2⟩


theorem round_sound {X : Ctx} (hX : CtxOk X) {α : Type} {R : α → Prop} {m : Nat} (ih : CTok X.P (evFn (α := α) X m) R) {w0 : World} {σ : Env} {hp : Heap} {nx : Nat} {w : World} {id : Nat} {xs : List AV} {us : List Value} {K : Out → Heap → Nat → Tree α}
    (hh : HRel w0.heap.size σ hp nx w) (hb : Below w0.heap.size w0 w) (hu : RepL σ xs us) (h : (evFn X (m + 1) (.yld id) xs hp nx K).sat R) :
    ∀ b, σ id = some b → ∃ l f tmps assign body, (Instr.yield b us.toArray).run X.P w = .ok (.round l f tmps assign body) w ∧ RoundX X.P l f tmps assign body w (CRes w0 σ K R) := by
  intro b hσ
  simp only [evFn] at h
  split at h <;> try (simp [Tree.sat] at h; done)
  rename_i r hr
  obtain ⟨n, L, l1, l2, l3, l4⟩ := hh.ob id _ hr
  have hnb : n = b := Option.some.inj (l1.symm.trans hσ)
  subst hnb
  split at h <;> try (simp [Tree.sat] at h; done)
  rename_i hst
  cases hchk : (Nat.beq (lenA xs) (lenA r.params) && (r.params.all (fun p => Nat.blt p r.n) && isFn X r.fn)) with
  | false => rw [hchk] at h; simp [Tree.sat] at h
  | true =>
    rw [hchk, cond_true] at h
    simp only [Bool.and_eq_true, Nat.beq_eq, lenA_eq] at hchk
    obtain ⟨hc1, hc2, hc3⟩ := hchk
    have hps : L.params.size = xs.length := by rw [hc1, ← l3.params]; simp
    have hul := hu.length
    obtain ⟨t1, t2⟩ := pairs2_rep r.params xs us r.tm L.tmps hu hc1.symm l3.tm (fun p hp => by
      have := List.all_eq_true.1 hc2 p hp
      rw [l3.n]; exact blt_t.1 this)
    have hfold : (L.params.zip us.toArray).foldl (fun tmps (t, a) => tmps.setIfInBounds t a) L.tmps = (r.params.zip us).foldl (fun tmps (p : Nat × Value) => tmps.setIfInBounds p.1 p.2) L.tmps := by
      rw [← l3.params, ← Array.foldl_toList]
      simp
    have hy := run_yield (P := X.P) (args := us.toArray) l2 (by simp; omega)
    rw [hfold] at hy
    refine ⟨_, _, _, _, _, hy, roundX_of ?_ ?_⟩
    · rw [l3.fn]
      unfold isFn at hc3
      split at hc3
      · rename_i g hg
        exact ⟨g, (hX.fns _ (assoc_mem hg)).1⟩
      · simp at hc3
    · rw [l3.fn, l3.assign, l3.body]
      have hS : Sat true w0 σ { tm := pairs2 r.params xs r.tm, n := r.n, hp := hp, nx := nx, df := [], rd := true } { tmps := (r.params.zip us).foldl (fun tmps (p : Nat × Value) => tmps.setIfInBounds p.1 p.2) L.tmps, defers := [] } w :=
        ⟨hh, t1, by rw [t2]; exact l3.n, .nil, hb, rfl⟩
      refine wpX_mono (evC_sound (α := α) hX.mix hX.pures ih r.fn X.u (fun _ => none) r.assign (fun _ _ _ h => by simp at h) σ _ _ w _ hS h) ?_
      rintro e a1 w1 ⟨τ, x, s1, e1, hS1, hx1, h1⟩
      cases x <;> simp only at h1 <;> try (simp [Tree.sat] at h1; done)
      cases e <;> simp only [ExR] at hx1
      refine ⟨rfl, ?_⟩
      split at h1 <;> try (simp [Tree.sat] at h1; done)
      rename_i r1 hr1
      obtain ⟨n1, L1, m1, m2, m3, m4⟩ := hS1.h.ob id _ hr1
      have hn1 : n1 = n := Option.some.inj (m1.symm.trans (e1.1 _ _ hσ))
      subst hn1
      split at h1 <;> try (simp [Tree.sat] at h1; done)
      rename_i hst1
      refine ⟨L1, m2, m3.st.trans hst1, ?_⟩
      have hob : ∀ (W : World) (st : LoopState) (pd : Option Code), (W.heap[n1]? = some (.loop { L1 with state := st, pending := pd })) → ObRel w0.heap.size τ W id (.lp { r1 with st := st, pend := pd }) :=
        fun W st pd hW => ⟨n1, _, m1, hW, ⟨m3.tm, m3.n, m3.fn, m3.params, m3.assign, m3.body, rfl, rfl⟩, m4⟩
      have hlt : n1 < w1.heap.size := hS1.h.bound id n1 m1
      have H1 := hS1.h.turnObj (by rw [hr1]; simp) m1 (.loop { L1 with state := .busy }) (o := .lp { r1 with st := .busy })
        ⟨n1, _, m1, World.putObj_heap_same hlt, ⟨m3.tm, m3.n, m3.fn, m3.params, m3.assign, m3.body, rfl, m3.pend⟩, m4⟩
      have hS2 : Sat true w0 τ { s1 with hp := upd s1.hp id (some (.lp { r1 with st := .busy })) } a1 (w1.putObj n1 (.loop { L1 with state := .busy })) :=
        ⟨H1, hS1.tm, hS1.n, hS1.df, below_putObj hS1.bl m4 _, hS1.rd⟩
      refine wpX_mono (evC_sound (α := α) hX.mix hX.pures ih r.fn X.u (fun _ => none) r.body (fun _ _ _ h => by simp at h) τ _ a1 _ _ hS2 h1) ?_
      rintro e a2 w2 ⟨τ2, x, s2, e2, hS3, hx2, h2⟩
      split at h2 <;> try (simp [Tree.sat] at h2; done)
      rename_i r2 hr2
      obtain ⟨n2, L2, p1, p2, p3, p4⟩ := hS3.h.ob id _ hr2
      have hn2 : n2 = n1 := Option.some.inj (p1.symm.trans ((e1.trans e2).1 _ _ hσ))
      subst hn2
      have hlt2 : n2 < w2.heap.size := hS3.h.bound id n2 p1
      have fin : ∀ (st : LoopState) (pd : Option Code) (y : Bool), (K (.ret (.bool y)) (upd s2.hp id (some (.lp { r2 with st := st, pend := pd }))) s2.nx).sat R → CRes w0 σ K R (.returned (.bool y)) (w2.putObj n2 (.loop { L2 with state := st, pending := pd })) := by
        intro st pd y hk
        have H2 := hS3.h.turnObj (by rw [hr2]; simp) p1 (.loop { L2 with state := st, pending := pd }) (o := .lp { r2 with st := st, pend := pd })
          ⟨n2, _, p1, World.putObj_heap_same hlt2, ⟨p3.tm, p3.n, p3.fn, p3.params, p3.assign, p3.body, rfl, rfl⟩, p4⟩
        exact ⟨.ret (.bool y), τ2, _, _, e1.trans e2, H2, below_putObj hS3.bl p4 _, by simp only [OutR, Rep], hk⟩
      cases x <;> cases e <;> simp only [ExR] at hx2 <;> simp only at h2
      · exact ⟨L2, p2, fin _ _ _ h2⟩
      · subst hx2
        exact ⟨L2, p2, fin _ _ _ h2⟩
      · exact ⟨L2, p2, fin _ _ _ h2⟩
      · split at h2 <;> try (simp [Tree.sat] at h2; done)
        rename_i hdf
        have hdn := hS3.df
        rw [hdf] at hdn
        exact ⟨dfl_nil hdn, .pan _, τ2, _, _, e1.trans e2, hS3.h, hS3.bl, hx2, h2⟩

theorem body_sound {X : Ctx} (hX : CtxOk X) {α : Type} {R : α → Prop} {cT : CallT α} (hc : CTok X.P cT R) {w0 : World} {σ : Env} {hp : Heap} {nx : Nat} {w : World} {f : FuncId} {xs : List AV} {us : List Value} {K : Out → Heap → Nat → Tree α}
    (hh : HRel w0.heap.size σ hp nx w) (hb : Below w0.heap.size w0 w) (hu : RepL σ xs us) (h : (evBody X cT f xs hp nx K).sat R) : (callFunc f us.toArray).run X.P w = .ok (.enter f us.toArray) w ∧ Calls' X.P f us.toArray w (CRes w0 σ K R) := by
  unfold evBody at h
  cases hf : assoc X.fns f with
  | none => simp [hf, Tree.sat] at h
  | some fn =>
    simp only [hf] at h
    obtain ⟨h1, h2, h3⟩ := hX.fns _ (assoc_mem hf)
    simp only at h1 h2 h3
    cases hbd : fn.body with
    | none => simp [hbd, Tree.sat] at h
    | some c =>
      simp only [hbd] at h
      cases hnn : Nat.ble (lenA xs) fn.ntmps with
      | false => simp [hnn, Tree.sat] at h
      | true =>
        simp only [hnn, cond_true] at h
        simp only [Nat.ble_eq, lenA_eq] at hnn
        have hpl : Plain X.P f := ⟨fn, h1, h2, by simp [hbd]⟩
        refine ⟨hpl.run _ _, ?_⟩
        have hlen := hu.length
        have hS : Sat false w0 σ { tm := frameOf xs, n := fn.ntmps, hp := hp, nx := nx, df := [], rd := false } { tmps := us.toArray ++ Array.replicate (fn.ntmps - us.toArray.size) undef, defers := [] } w := by
          refine ⟨hh, fun t => ?_, ?_, .nil, hb, rfl⟩
          · have := frameOf_rep xs us hu (fn.ntmps - us.toArray.size) t
            have he : (us.toArray ++ Array.replicate (fn.ntmps - us.toArray.size) undef).getD t undef = (us ++ List.replicate (fn.ntmps - us.toArray.size) undef)[t]?.getD undef := by
              rw [Array.getD_eq_getD_getElem?, ← Array.getElem?_toList]
              simp
            rw [he]; exact this
          · simp; omega
        have hw := evC_sound (α := α) hX.mix hX.pures hc f X.u (assoc2 X.loops f) c (fun d hd g hg => h3 c hbd d hd g hg) σ _ _ w _ hS h
        intro cs
        let b : Frame := { (default : Frame) with fn := f, kind := .normal }
        have henter : Frame.enter X.P f us.toArray .normal = atX b { tmps := us.toArray ++ Array.replicate (fn.ntmps - us.toArray.size) undef, defers := [] } [.code c] := by
          simp [Frame.enter, atX, h1, hbd, b]
          rfl
        rw [henter]
        obtain ⟨e, a', w', ⟨τ, x, s', he, hS', hx, h'⟩, hleft⟩ := left_of_wpX (cs := cs) (b := b) rfl rfl hw (by
          rintro id a' w' ⟨τ, x, s', _, _, hx, h'⟩
          cases x <;> simp only [ExR] at hx
          simp [Tree.sat] at h')
        have hout : ∀ (m : Option AV) (mode : FrameMode) (todo : List Item) (Z : Option AV → Heap → Nat → Tree α), MRel τ m mode → Steps X.P (lone (atX b { tmps := us.toArray ++ Array.replicate (fn.ntmps - us.toArray.size) undef, defers := [] } [.code c]) cs w) (lone { atX b a' todo with mode := mode } cs w') →
            (∀ m' hp' nx', Z m' hp' nx' = match m' with | none => (match resultsA X.P { s' with hp := hp' } fn.results.toList with | some l => K (.ret (tupA l)) hp' nx' | none => .fail) | some x => (match m with | some _ => K (.pan x) hp' nx' | none => .fail)) →
            (evLeave X cT s'.df m s'.hp s'.nx Z).sat R →
            ∃ e w' fr, ((match e with | .outgrown => False | _ => True) ∧ CRes w0 σ K R e w') ∧ Comes X.P (lone (atX b { tmps := us.toArray ++ Array.replicate (fn.ntmps - us.toArray.size) undef, defers := [] } [.code c]) cs w) (lone fr cs w') e ∧ fr.fn = f ∧ fr.leaving X.P w' e := by
          intro m mode todo Z hm hs1 hZ hk
          obtain ⟨τ2, w2, m2, mode2, hp2, nx2, s2, r0, r1, r2, r3, r4⟩ := leave_sound hX hc s'.df a'.defers τ m s'.hp s'.nx w' { atX b a' todo with mode := mode } _ hm rfl hS'.df hS'.h hS'.bl hk cs
          rw [hZ] at r4
          cases m2 with
          | none =>
            simp only at r4
            cases hr : resultsA X.P { s' with hp := hp2 } fn.results.toList with
            | none => rw [hr] at r4; simp [Tree.sat] at r4
            | some l =>
              rw [hr] at r4
              have hS2 : Sat false w0 τ2 { s' with hp := hp2, nx := nx2 } a' w2 := ⟨r2, fun t => (hS'.tm t).mono r0, hS'.n, hS'.df.mono r0, r3, hS'.rd⟩
              have hr' : resultsA X.P { s' with hp := hp2, nx := nx2 } fn.results.toList = some l := by
                rw [← hr]
                have : ∀ rs : List ResultVar, resultsA X.P { s' with hp := hp2, nx := nx2 } rs = resultsA X.P { s' with hp := hp2 } rs := by
                  intro rs
                  induction rs with
                  | nil => rfl
                  | cons r rs ih => cases r <;> simp only [resultsA, ih]
                exact this _
              obtain ⟨v, hv1, hv2⟩ := results_run hS2 hr'
              have hmode : mode2 = .returning := r1
              subst hmode
              exact ⟨.returned v, w2, { atX b a' todo with mode := .returning, defers := [] }, ⟨trivial, .ret (tupA l), τ2, hp2, nx2, he.trans r0, r2, r3, hv2, r4⟩, Steps.trans hs1 s2, rfl, rfl, rfl, rfl, fn, h1, hv1⟩
          | some x =>
            cases m with
            | none => simp [Tree.sat] at r4
            | some y =>
              simp only at r4
              obtain ⟨v, hv, hmode⟩ := r1
              subst hmode
              exact ⟨.panicked [{ v, recovered := false }], w2, { atX b a' todo with mode := .panicking _, defers := [] }, ⟨trivial, .pan x, τ2, hp2, nx2, he.trans r0, r2, r3, ⟨v, hv, rfl⟩, r4⟩, Steps.trans hs1 s2, rfl, rfl, rfl, fn, h1⟩
        cases x <;> cases e <;> simp only [ExR] at hx <;> simp only at h'
        · obtain ⟨todo, hs1⟩ := hleft
          exact hout none .returning todo _ rfl hs1 (fun m' _ _ => by cases m' <;> rfl) h'
        · simp [Tree.sat] at h'
        · obtain ⟨todo, hs1⟩ := hleft
          exact hout none .returning todo _ rfl hs1 (fun m' _ _ => by cases m' <;> rfl) h'
        · obtain ⟨todo, hs1⟩ := hleft
          obtain ⟨v, hv, rfl⟩ := hx
          exact hout (some _) _ todo _ ⟨v, hv, rfl⟩ hs1 (fun m' _ _ => by cases m' <;> rfl) h'
theorem evFn_sound {X : Ctx} (hX : CtxOk X) {α : Type} (R : α → Prop) : ∀ (m : Nat), CTok X.P (evFn (α := α) X m) R
  | 0 => by intro w0 σ hp nx w c xs us K _ _ _ h; simp [evFn, Tree.sat] at h
  | n + 1 => by
    intro w0 σ hp nx w c xs us K hh hb hu h
    cases c with
    | yld id => exact round_sound hX (evFn_sound hX R n) hh hb hu h
    | fn f =>
      simp only [evFn] at h
      show (callFunc f us.toArray).run X.P w = .ok (.enter f us.toArray) w ∧ Calls' X.P f us.toArray w (CRes w0 σ K R)
      cases hpx : (assoc X.pures f).bind (fun g => (g.run ((viewL X.P hp g.vw xs).map (toRO X.P hp))).map fun r => (g.flat, viewLIds hp g.vw xs, g.pv, r)) with
      | some y =>
        obtain ⟨fl, vi, pv, c, x⟩ := y
        simp only [hpx] at h
        cases hg : assoc X.pures f with
        | none => simp [hg] at hpx
        | some g =>
          simp only [hg, Option.bind_some, Option.map_eq_some_iff, Prod.mk.injEq] at hpx
          obtain ⟨r, hr, rfl, rfl, rfl, rfl⟩ := hpx
          obtain ⟨h1, h2, h3⟩ := hX.pures _ (assoc_mem hg)
          cases c with
          | false =>
            simp only [cond_false] at h
            split at h
            · rename_i p hp'
              refine ⟨h1.run _ _, ?_⟩
              have hro := toRVs_rep (P := X.P) hh (xs.flatMap idsOf ++ viewLIds hp g.vw xs) g.vw hu (fun i hi => List.mem_append_left _ hi) (fun i hi => List.mem_append_right _ hi)
              obtain ⟨hin, hcalls⟩ := h3 p hp' { σ with mem := frozen σ hp (xs.flatMap idsOf ++ viewLIds hp g.vw xs) w } w _ us x hh.bound (frozen_ok hh _) hro hr
              refine hcalls.mono ?_
              rintro e w' ⟨rfl, hbl⟩
              exact ⟨.pan (pvA p), σ, hp, nx, Ext.refl _, hh.below hbl, hb.trans (hbl.mono hb.size), ⟨_, pvA_rep hin, rfl⟩, h⟩
            · exact h.elim
          | true => exact ⟨h1.run _ _, pure_sound h2 hh hb hu hr (by simpa using h)⟩
      | none =>
      simp only [hpx] at h
      cases hs : assoc X.specs f with
      | some c =>
        simp only [hs, sat_bind] at h
        obtain ⟨h1, h2⟩ := hX.specs _ (assoc_mem hs)
        exact ⟨h1.run _ _, (h2 w0 σ hp nx w xs us _ hh hb hu h).mono fun e w' ⟨y, τ, hp', nx', k1, k2, k3, k4, k5⟩ => ⟨y, τ, hp', nx', k1, k2, k3, k4, k5⟩⟩
      | none =>
        simp only [hs] at h
        exact body_sound hX (evFn_sound hX R n) hh hb hu h
end V
end Go.Proofs.Ytdblbofagfhlbaa
/- From the evaluator to contracts: summaries of functions by plain data; calls of laws. -/
namespace Go.Proofs.Ytdblbofagfhlbaa
open Go.RowKit Go.WideShapes Go.ChangeShapes
namespace V

/-! numbers of data are numbers of their kinds -/
mutual
def WFD : (c : TC) → TCT c → Prop
  | .b, _ => True
  | .i k, n => inK k n
  | .s, _ => True
  | .sl c, xs => (xs.length : Int) ≤ maxK .i64 ∧ ∀ x ∈ xs, WFD c x
  | .st cs, x => WFDs cs x
def WFDs : (cs : List TC) → TCTs cs → Prop
  | [], _ => True
  | c :: cs, x => WFD c x.1 ∧ WFDs cs x.2
end
theorem LR.allx {T : Type} {R : T → List Value → Prop} {Q : T → Prop} (h : ∀ x vs, R x vs → Q x) : ∀ {xs : List T} {vs : List Value}, LR R xs vs → ∀ x ∈ xs, Q x
  | [], _, _ => by simp
  | x :: xs, vs, ⟨a, b, _, k1, k2⟩ => by
    intro y hy
    rcases List.mem_cons.1 hy with rfl | hy
    · exact h _ a k1
    · exact LR.allx h k2 y hy
mutual
theorem RepD.wf {m : Nat → Nat → Option Value} : ∀ (c : TC) (x : TCT c) (vs : List Value), RepD m c x vs → WFD c x
  | .b, _, _, _ => by simp only [WFD]
  | .i k, _, _, h => by simp only [RepD] at h; simp only [WFD]; exact h.2
  | .s, _, _, _ => by simp only [WFD]
  | .sl c, xs, vs, h => by
    simp only [RepD] at h
    simp only [WFD]
    obtain ⟨v, _, h⟩ := h
    rcases h with ⟨_, rfl⟩ | ⟨b, o, s, cap, us, _, h2, h3, _, h5⟩
    · simp [maxK]
    · exact ⟨by omega, LR.allx (fun x vs k => RepD.wf c x vs k) h5⟩
  | .st cs, x, vs, h => by simp only [RepD] at h; simp only [WFD]; exact RepDs.wf cs x vs h
theorem RepDs.wf {m : Nat → Nat → Option Value} : ∀ (cs : List TC) (x : TCTs cs) (vs : List Value), RepDs m cs x vs → WFDs cs x
  | [], _, _, _ => by simp only [WFDs]
  | c :: cs, x, vs, h => by
    simp only [RepDs] at h
    obtain ⟨a, b, _, h1, h2⟩ := h
    simp only [WFDs]
    exact ⟨RepD.wf c x.1 a h1, RepDs.wf cs x.2 b h2⟩
end
mutual
theorem RepD.noSl {m m' : Nat → Nat → Option Value} : ∀ (c : TC) (x : TCT c) (vs : List Value), c.noSl = true → RepD m c x vs → RepD m' c x vs
  | .b, _, _, _, h => by simpa only [RepD] using h
  | .i _, _, _, _, h => by simpa only [RepD] using h
  | .s, _, _, _, h => by simpa only [RepD] using h
  | .sl c, _, _, hn, _ => by simp [TC.noSl] at hn
  | .st cs, x, vs, hn, h => by simp only [RepD] at h ⊢; exact RepDs.noSl cs x vs (by simpa only [TC.noSl] using hn) h
theorem RepDs.noSl {m m' : Nat → Nat → Option Value} : ∀ (cs : List TC) (x : TCTs cs) (vs : List Value), noSls cs = true → RepDs m cs x vs → RepDs m' cs x vs
  | [], _, _, _, h => by simpa only [RepDs] using h
  | c :: cs, x, vs, hn, h => by
    simp only [noSls, Bool.and_eq_true] at hn
    simp only [RepDs] at h ⊢
    obtain ⟨a, b, e, h1, h2⟩ := h
    exact ⟨a, b, e, RepD.noSl c x.1 a hn.1 h1, RepDs.noSl cs x.2 b hn.2 h2⟩
end
theorem decA_enc {σ : Env} {c : TC} {x : AV} {v : Value} {y : TCT c} (h : decA c x = some y) (k : Rep σ x v) (τ : Env) (hτ : τ.mem = σ.mem ∨ c.noSl = true) : Rep τ (encA c y) v ∧ WFD c y := by
  obtain ⟨h1, h2, h3⟩ := decA_rep h k
  refine ⟨encA_rep c y v ?_ h2 h3, RepD.wf c y _ h1⟩
  rcases hτ with e | e
  · rw [e]; exact h1
  · exact RepD.noSl c y _ e h1
theorem decAs_enc {σ : Env} : ∀ {cs : List TC} {xs : List AV} {us : List Value} {y : TCTs cs}, decAs cs xs = some y → RepL σ xs us → ∀ (τ : Env), (τ.mem = σ.mem ∨ noSls cs = true) → RepL τ (encAs cs y) us ∧ WFDs cs y
  | [], xs, us, y, h, k, τ, _ => by
    cases xs with
    | nil => simp only [RepL] at k; simp only [encAs, RepL, WFDs]; exact ⟨k, trivial⟩
    | cons x xs => simp [decAs] at h
  | c :: cs, xs, us, y, h, k, τ, hτ => by
    cases xs with
    | nil => simp [decAs] at h
    | cons x xs =>
      simp only [decAs] at h
      split at h <;> try (simp at h; done)
      rename_i z zs hz hzs
      simp only [Option.some.injEq] at h
      subst h
      simp only [RepL] at k
      obtain ⟨v, us', rfl, k1, k2⟩ := k
      have h1 := decA_enc hz k1 τ (hτ.imp id fun e => by simp only [noSls, Bool.and_eq_true] at e; exact e.1)
      have h2 := decAs_enc hzs k2 τ (hτ.imp id fun e => by simp only [noSls, Bool.and_eq_true] at e; exact e.2)
      simp only [encAs, RepL, WFDs]
      exact ⟨⟨v, us', rfl, h1.1, h2.1⟩, h1.2, h2.2⟩
theorem encAs_len : ∀ (cs : List TC) (y : TCTs cs), (encAs cs y).length = cs.length
  | [], _ => rfl
  | c :: cs, y => by simp only [encAs, List.length_cons, encAs_len cs y.2]
theorem tupA_of : ∀ {l : List AV}, (∀ a, l = [a] → False) → tupA l = .tup l
  | [], _ => rfl
  | [a], h => (h a rfl).elim
  | _ :: _ :: _, _ => rfl
theorem decR_enc {σ : Env} {rs : List TC} {x : AV} {v : Value} {y : TCTs rs} (h : decR rs x = some y) (k : Rep σ x v) (τ : Env) (hτ : τ.mem = σ.mem ∨ noSls rs = true) : Rep τ (encR rs y) v := by
  unfold decR at h
  split at h
  · rename_i c x'
    split at h <;> try (simp at h; done)
    rename_i z hz
    simp only [Option.some.injEq] at h
    subst h
    exact (decA_enc hz k τ (hτ.imp id fun e => by simp only [noSls, Bool.and_true] at e; exact e)).1
  · rename_i rs' x' l hne
    simp only [Rep] at k
    obtain ⟨vs, k1, rfl⟩ := k
    have h2 := (decAs_enc h k1 τ hτ).1
    have hl := encAs_len _ y
    unfold encR
    rw [tupA_of (fun a h3 => by
      rw [h3] at hl
      match rs, hl, hne with
      | [c], _, hne => exact hne c rfl
      | [], hl, _ => simp at hl
      | _ :: _ :: _, hl, _ => simp at hl)]
    simp only [Rep]
    exact ⟨vs, h2, rfl⟩
  · simp at h

/-! contracts -/
def noHeap : Heap := fun _ => none
/-- the environment of a call: what it may read -/
def env0 (mem : Nat → Nat → Option Value) : Env := ⟨fun _ => none, mem, fun _ => none, mem, fun _ => none, 0⟩
theorem hrel_none {mem : Nat → Nat → Option Value} {w : World} (hm : MemOk mem w) (B : Nat) : HRel B (env0 mem) noHeap 0 w :=
  ⟨fun id o h => by simp [noHeap] at h, fun i j n h => absurd rfl h, fun i _ => ⟨rfl, rfl, rfl⟩, fun i n h => by simp [env0] at h, hm, fun i n h => absurd rfl h, fun _ _ _ h _ => h, ⟨Nat.zero_le _, fun _ _ h => by simp [env0] at h, fun _ _ _ _ => rfl, fun _ _ _ _ => rfl⟩⟩
def toR (P : Program) (hp : Heap) : AV → AV
  | .tup l => .tup (l.map (toRO P hp))
  | x => toRO P hp x
def idsR : AV → List Nat
  | .tup l => l.flatMap idsOf
  | x => idsOf x
theorem toR_rep {P : Program} {B : Nat} {σ : Env} {hp : Heap} {nx : Nat} {w : World} (h : HRel B σ hp nx w) {x : AV} {v : Value} (hx : Rep σ x v) : Rep { σ with mem := frozen σ hp (idsR x) w } (toR P hp x) v := by
  cases x with
  | tup l =>
    simp only [toR, Rep, idsR] at hx ⊢
    obtain ⟨vs, h1, h2⟩ := hx
    exact ⟨vs, toROs_rep h _ h1 (fun y hy i hi => List.mem_flatMap.2 ⟨y, hy, hi⟩), h2⟩
  | _ => simp only [toR, idsR]; exact toRO_rep h _ hx (fun i hi => hi)
/-- the result, as data -/
def outK (P : Program) (rs : List TC) (v : Out) (hp : Heap) (_ : Nat) : Tree (TCTs rs) :=
  match v with
  | .ret x => match decR rs (toR P hp x) with
    | some y => .leaf y
    | none => .fail
  | .pan _ => .fail

theorem pureOk_of {P : Program} {f : FuncId} {cs rs : List TC} {ok : TCTs cs → Bool} {F : TCTs cs → TCTs rs}
    (h : ∀ x : TCTs cs, ok x = true → WFDs cs x → ∀ (w : World) (mem : Nat → Nat → Option Value) (us : List Value), MemOk mem w → RepL (env0 mem) (encAs cs x) us → Calls' P f us.toArray w (CRes w (env0 mem) (outK P rs) (fun y => y = F x))) : PureOk P f (spec cs rs ok F) := by
  intro σ w xs us r _ hm hu hg
  simp only [spec] at hg
  cases hd : decAs cs xs with
  | none => simp [hd] at hg
  | some x =>
    simp only [hd, Option.some.injEq, Prod.mk.injEq] at hg
    obtain ⟨hok, rfl⟩ := hg
    obtain ⟨h1, h2⟩ := decAs_enc hd hu (env0 σ.mem) (.inl rfl)
    refine (h x hok h2 w σ.mem us hm h1).mono ?_
    rintro e w' ⟨y, τ, hp', nx', k1, k2, k3, k4, k5⟩
    cases y with
    | pan z => simp [outK, Tree.sat] at k5
    | ret z =>
      simp only [outK] at k5
      split at k5 <;> try (simp [Tree.sat] at k5; done)
      rename_i q hq
      simp only [Tree.sat] at k5
      subst k5
      cases e with
      | returned v =>
        have hz := toR_rep (P := P) k2 (show Rep τ z v from k4)
        refine ⟨v, frozen τ hp' (idsR z) w', rfl, frozen_ok k2 _, fun b o u hb => frozen_ge k2 _ b o u (k1.2 b o u hb), fun b o u hb => ?_, fun _ => decR_enc hq hz _ (.inl rfl), fun hf τ' _ => decR_enc hq hz τ' (.inr hf), k3⟩
        unfold frozen at hb
        split at hb
        · rename_i hex
          obtain ⟨id, _, hne, hat⟩ := hex
          exact .inr (k2.ge hne hat)
        · rcases Nat.lt_or_ge b w.heap.size with hlt | hge
          · have := k2.low b o u hb hlt
            rw [k1.4] at this
            exact .inl this
          · exact .inr hge
      | panicked c => exact k4.elim
      | outgrown => exact k4.elim

theorem pureOk_of_ev {X : Ctx} (hX : CtxOk X) {f : FuncId} {cs rs : List TC} {ok : TCTs cs → Bool} {F : TCTs cs → TCTs rs} (m : Nat)
    (h : ∀ x : TCTs cs, ok x = true → WFDs cs x → (evFn X m (.fn f) (encAs cs x) noHeap 0 (outK X.P rs)).sat (fun y => y = F x)) : PureOk X.P f (spec cs rs ok F) :=
  pureOk_of fun x hok hwf w mem us hm hu => (evFn_sound hX (fun y => y = F x) m w (env0 mem) noHeap 0 w (.fn f) _ us (outK X.P rs) (hrel_none hm _) (Below.refl _ w) hu (h x hok hwf)).2
theorem pureOk_of_body {X : Ctx} (hX : CtxOk X) {f : FuncId} {cs rs : List TC} {ok : TCTs cs → Bool} {F : TCTs cs → TCTs rs} (m : Nat)
    (h : ∀ x : TCTs cs, ok x = true → WFDs cs x → (evBody X (evFn X m) f (encAs cs x) noHeap 0 (outK X.P rs)).sat (fun y => y = F x)) : PureOk X.P f (spec cs rs ok F) :=
  pureOk_of fun x hok hwf w _mem _us hm hu => (body_sound hX (evFn_sound hX (fun y => y = F x) m) (w0 := w) (hrel_none hm _) (Below.refl _ w) hu (h x hok hwf)).2

/-- a law's result has to be true -/
def lawK (v : Out) (_ : Heap) (_ : Nat) : Tree Unit :=
  match v with
  | .ret (.bool b) => bif b then .leaf () else .fail
  | _ => .fail
theorem law_calls {X : Ctx} (hX : CtxOk X) {f : FuncId} (m : Nat) {xs : List AV} {us : List Value} {w : World} {mem : Nat → Nat → Option Value} (hm : MemOk mem w) (hu : RepL (env0 mem) xs us)
    (h : (evFn X m (.fn f) xs noHeap 0 lawK).sat (fun _ => True)) : Calls X.P f us.toArray w fun e w' => e = .returned (.bool true) ∧ Below w.heap.size w w' := by
  obtain ⟨_, hcalls⟩ := evFn_sound hX (fun _ => True) m w (env0 mem) noHeap 0 w (.fn f) xs us lawK (hrel_none hm _) (Below.refl _ w) hu h
  refine Calls.mono hcalls ?_
  rintro e w' ⟨_, y, τ, hp', nx', _, _, k3, k4, k5⟩
  cases y with
  | pan z => simp [lawK, Tree.sat] at k5
  | ret z =>
    cases z <;> simp only [lawK, Tree.sat] at k5
    rename_i b
    cases b with
    | false => simp [Tree.sat] at k5
    | true =>
      cases e with
      | returned v => simp only [OutR, Rep] at k4; subst k4; exact ⟨rfl, k3⟩
      | panicked c => exact k4.elim
      | outgrown => exact k4.elim

theorem sat_cond {α : Type} {R : α → Prop} {b : Bool} {s t : Tree α} (h1 : b = true → s.sat R) (h2 : b = false → t.sat R) : (bif b then s else t).sat R := by
  cases b with
  | true => exact h1 rfl
  | false => exact h2 rfl
theorem sat_leaf {α : Type} {R : α → Prop} {a : α} (h : R a) : (Tree.leaf a).sat R := h
theorem sat_eq {α : Type} {R : α → Prop} {s t : Tree α} (e : s = t) (h : t.sat R) : s.sat R := e ▸ h
/-- a condition that has to hold -/
theorem sat_must {α : Type} {R : α → Prop} {b : Bool} {t : Tree α} (hb : b = true) (h : t.sat R) : (bif b then t else .fail).sat R := by subst hb; exact h
theorem sat_iff {α : Type} {R : α → Prop} {b : Bool} {s t : Tree α} : (bif b then s else t).sat R ↔ (b = true → s.sat R) ∧ (b = false → t.sat R) := by cases b <;> simp

theorem puOk_nil {P : Program} : PuOk P [] := fun p hp => by simp at hp
theorem puOk_cons {P : Program} {f : FuncId} {g : PureT} {l : List (Nat × PureT)} (h1 : Plain P f) (h2 : PureOk P f g) (h : PuOk P l) (h3 : PanOk P f g := by exact panOk_none rfl) : PuOk P ((f, g) :: l) := by
  intro p hp
  rcases List.mem_cons.1 hp with rfl | hp
  · exact ⟨h1, h2, h3⟩
  · exact h p hp
/-- a function of the program, by its number -/
def FnIs (P : Program) (p : Nat × Func) : Prop := P.funcs[p.1]? = some p.2 ∧ (p.2.name == "runtime.NumGoroutine") = false ∧ p.2.body.isSome = true
theorem FnIs.plain {P : Program} {f : Nat} {fn : Func} (h : FnIs P (f, fn)) : Plain P f := ⟨fn, h.1, h.2.1, h.2.2⟩
theorem fns_nil {P : Program} : ∀ p ∈ ([] : List (Nat × Func)), FnIs P p := fun p hp => by simp at hp
theorem fns_cons {P : Program} {f : Nat} {fn : Func} {l : List (Nat × Func)} (h1 : FnIs P (f, fn)) (h : ∀ p ∈ l, FnIs P p) : ∀ p ∈ (f, fn) :: l, FnIs P p := by
  intro p hp
  rcases List.mem_cons.1 hp with rfl | hp
  · exact h1
  · exact h p hp
/-- a context without loops' summaries -/
def ctx (P : Program) (pu : List (Nat × PureT)) (fns : List (Nat × Func)) : Ctx := { P := P, u := 64, fns := fns, loops := [], pures := pu, specs := [] }
theorem ctx_ok {P : Program} (hm : P.follows .mixedOrders = true) {pu : List (Nat × PureT)} {fns : List (Nat × Func)} (hp : PuOk P pu) (hf : ∀ p ∈ fns, FnIs P p) : CtxOk (ctx P pu fns) :=
  ⟨hm, hp, fun p h => ⟨(hf p h).1, (hf p h).2.1, fun _ _ _ _ _ h => by simp [ctx, assoc2] at h⟩, fun p h => by simp [ctx] at h⟩

/-- a number of the kind is left as it is -/
theorem wrap_id {n : Int} (h1 : -9223372036854775808 ≤ n) (h2 : n ≤ 9223372036854775807) : IntKind.i64.wrap n = n := by
  unfold IntKind.wrap
  simp [IntKind.bits, IntKind.signed]
  split <;> omega
theorem in64 {n : Int} (h : inK .i64 n) : -9223372036854775808 ≤ n ∧ n ≤ 9223372036854775807 := h

section
variable {H : Type} {enc : TypeId × Value → H} {P : Program}
/-- the end of a law's proof: the call made blocks of its own, and turned nothing that was there -/
theorem post_law {f : Func} {s : ChangeSpec} {apart fresh handsOn again : Bool} {W W' : World} {args : Array Value} {v : Value} {ds gs : List (DataW H)} {before pa pv : List MemPlace}
    (hW : DataW.Whole enc P f.params.toList s.vars apart W args.toList ds gs before)
    (hres : ∀ (b : Nat) (sp : Nat → Bool) (hd : Bool), DataW.TrodAll enc P W' b sp hd f.resultTypes.toList (v.resultList f.resultTypes.size) (s.fn H (ds ++ gs)).results [])
    (hargs : ∀ sp : Nat → Bool, (∀ p ∈ before, sp p.block = true) → DataW.TrodAll enc P W' 0 sp true f.params.toList args.toList (s.fn H (ds ++ gs)).args pa)
    (hvars : ∀ sp : Nat → Bool, (∀ p ∈ before, sp p.block = true) → DataW.TrodVars enc P W' sp s.vars (s.fn H (ds ++ gs)).vars pv)
    (hps : before = pa ++ pv) (hb : Below W.heap.size W W')
    (hok : ∀ (j : Nat) (t : TypeId) (r : Value), f.resultTypes[j]? = some t → (v.resultList f.resultTypes.size)[j]? = some r → Value.okWide P W' .any 0 t r) :
    s.post enc P f apart fresh handsOn again W args v W' := by
  have hlt : ∀ p ∈ before, p.block < W.heap.size := fun p hp => hW.lt p hp
  have hold : ∀ p ∈ before, (fun b => decide (b < W.heap.size)) p.block = true := fun p hp => by simpa using hlt p hp
  refine ⟨ds, gs, before, [], pa, pv, hW, hres _ _ _, hargs _ hold, hvars _ hold, World.keptBut_mono (fun p hp => ⟨hp, ?_⟩) (hb.frame (· ∈ before)), fun _ => ?_⟩
  · rw [hps, List.mem_append] at hp
    exact Or.inr hp
  · obtain ⟨_, _, _, _, _, hz, hn⟩ := hW
    refine ⟨hok, _, _, ([] ++ pa) ++ pv, ⟨[] ++ pa, pv, trodAll_append (hargs _ (fun _ _ => rfl)) (hres _ _ _), hvars _ (fun _ _ => rfl), rfl, ?_, ?_⟩, ?_⟩
    · intro b off hp
      have hin : MemPlace.cell b off ∈ before := by rw [hps]; simpa using hp
      rw [hb.frozen (hlt _ hin)]
      exact hz b off hin
    · intro ha
      have := hn ha
      rw [hps] at this
      simpa using this
    · intro p hp _
      rw [hps]
      simpa using hp
end
end V
end Go.Proofs.Ytdblbofagfhlbaa
