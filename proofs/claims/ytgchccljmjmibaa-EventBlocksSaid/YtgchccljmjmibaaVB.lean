/- That the symbolic evaluator of the text Va is sound, second part: the call's own blocks, lists and loops; operations in order. -/
import Derived.Test.YtgchccljmjmibaaVM
import Derived.Test.YtgchccljmjmibaaVR
import Derived.Laws.AppendOwn
import Derived.Below
import Derived.ProofKit
namespace Go.Proofs.Ytgchccljmjmibaa
open Go.RowKit
namespace V

/-- a loop's record -/
structure LpRel (σ : Env) (r : LoopR) (L : Loop) : Prop where
  tm : ∀ t, Rep σ (r.tm t) (L.tmps.getD t undef)
  n : L.tmps.size = r.n
  fn : L.fn = r.fn
  params : L.params.toList = r.params
  assign : L.assign = r.assign
  body : L.body = r.body
  st : L.state = r.st
  pend : L.pending = r.pend
/-- an object of the call's own -/
def ObRel (B : Nat) (σ : Env) (w : World) (id : Nat) : Ob → Prop
  | .blk b => ∃ n vs, σ id = some n ∧ w.heap[n]? = some (.cells (List.toArray vs) b.ty (0, 0)) ∧ RepL σ b.cs vs ∧ B ≤ n
  | .arr A => ∃ v us, σ.sv id = some v ∧ w.ownsRow B A.ty A.c.size v A.xs.length us ∧ LR (RepD σ.mem A.c) A.xs us ∧ 0 < A.c.size ∧ ∀ n, v.ownBlock = some n ↔ σ id = some n
  | .lp r => ∃ n L, σ id = some n ∧ w.heap[n]? = some (.loop L) ∧ LpRel σ r L ∧ B ≤ n
  | .dfr => ∃ n, σ id = some n ∧ w.heap[n]? = some (.deferred (some [])) ∧ B ≤ n
  | .it t pos => ∃ n, σ id = some n ∧ w.heap[n]? = some (.stringIter t pos) ∧ B ≤ n
  | .lit L => ∃ v us, σ.sv id = some v ∧ w.ownsRow B L.ty L.st v L.n us ∧ RepL σ L.cs us ∧ 0 < L.st ∧ ∀ n, v.ownBlock = some n ↔ σ id = some n
  | .mp M => ∃ n es clock, σ id = some n ∧ w.heap[n]? = some (.map es clock) ∧ MapRel σ.mem σ.sv M es clock ∧ B ≤ n

/-- objects that stay as they are, whoever runs -/
structure KpOk (σ : Env) (hp : Heap) (w : World) : Prop where
  sz : σ.sz ≤ w.heap.size
  ok : ∀ n o, σ.kp n = some o → w.heap[n]? = some o
  sep : ∀ i n, hp i ≠ none → σ i = some n → σ.kp n = none
  mem : ∀ n o v, σ.mem n o = some v → σ.kp n = none
theorem kp_lt {σ : Env} {hp : Heap} {w : World} (h : KpOk σ hp w) {n : Nat} (k : σ.kp n ≠ none) : n < w.heap.size := by
  cases hc : σ.kp n with
  | none => exact absurd hc k
  | some o => exact (Array.getElem?_eq_some_iff.1 (h.ok n o hc)).1
theorem kp_new {σ : Env} {hp : Heap} {w : World} (h : KpOk σ hp w) {n : Nat} (k : w.heap.size ≤ n) : σ.kp n = none := by
  cases hc : σ.kp n with
  | none => rfl
  | some o => have := kp_lt h (n := n) (by rw [hc]; simp); omega
theorem KpOk.keep {σ : Env} {hp hp' : Heap} {w w' : World} (h : KpOk σ hp w) (hsz : w.heap.size ≤ w'.heap.size) (hk : ∀ n, σ.kp n ≠ none → w'.heap[n]? = w.heap[n]?) (hl : ∀ i, hp' i ≠ none → hp i ≠ none) : KpOk σ hp' w' :=
  ⟨Nat.le_trans h.sz hsz, fun n o hn => (hk n (by rw [hn]; simp)).trans (h.ok n o hn), fun i n hi => h.sep i n (hl i hi), h.mem⟩

/-- numbers that are set aside -/
structure Rsv (σ : Env) (nx : Nat) : Prop where
  lt : ∀ i, σ.dd i = true ∨ σ.ds i = true → i < nx
  at_ : ∀ i, σ.dd i = true → σ i = none
  sv : ∀ i, σ.ds i = true → σ.sv i = none
theorem Rsv.up {σ : Env} {nx m : Nat} (h : Rsv σ nx) (hm : nx ≤ m) : Rsv σ m := ⟨fun i hi => Nat.lt_of_lt_of_le (h.lt i hi) hm, h.at_, h.sv⟩
theorem Rsv.ext {σ τ : Env} {nx m : Nat} (h : Rsv σ nx) (hm : nx ≤ m) (h1 : τ.dd = σ.dd) (h2 : τ.ds = σ.ds) (hat : ∀ j, σ.dd j = true → σ j = none → τ j = none) (hsv : ∀ j, σ.ds j = true → σ.sv j = none → τ.sv j = none) : Rsv τ m :=
  ⟨fun i hi => Nat.lt_of_lt_of_le (h.lt i (by rw [h1, h2] at hi; exact hi)) hm, fun i hi => by rw [h1] at hi; exact hat i hi (h.at_ i hi), fun i hi => by rw [h2] at hi; exact hsv i hi (h.sv i hi)⟩
theorem Rsv.not {σ : Env} {nx i : Nat} (h : Rsv σ nx) (hi : nx ≤ i) : σ.dd i = false ∧ σ.ds i = false := by
  constructor
  · cases hc : σ.dd i with
    | false => rfl
    | true => have := h.lt i (.inl hc); omega
  · cases hc : σ.ds i with
    | false => rfl
    | true => have := h.lt i (.inr hc); omega
/-- a number that may be given to an object -/
structure Free (σ : Env) (id : Nat) : Prop where
  at_ : σ id = none
  sv : σ.sv id = none
  dd : σ.dd id = false
  ds : σ.ds id = false
theorem Free.rsv {σ τ : Env} {nx m id : Nat} (f : σ.dd id = false) (g : σ.ds id = false) (h : Rsv σ nx) (hm : nx ≤ m) (h1 : τ.dd = σ.dd) (h2 : τ.ds = σ.ds) (hat : ∀ j, j ≠ id → τ j = σ j) (hsv : ∀ j, j ≠ id → τ.sv j = σ.sv j) : Rsv τ m :=
  h.ext hm h1 h2 (fun j hj hn => by
    have : j ≠ id := fun e => by rw [e, f] at hj; cases hj
    rw [hat j this]; exact hn) (fun j hj hn => by
    have : j ≠ id := fun e => by rw [e, g] at hj; cases hj
    rw [hsv j this]; exact hn)

structure HRel (B : Nat) (σ : Env) (hp : Heap) (nx : Nat) (w : World) : Prop where
  ob : ∀ id o, hp id = some o → ObRel B σ w id o
  inj : ∀ i j n, hp i ≠ none → hp j ≠ none → σ i = some n → σ j = some n → i = j
  fresh : ∀ i, nx ≤ i → σ i = none ∧ σ.sv i = none ∧ hp i = none
  bound : ∀ i n, σ i = some n → n < w.heap.size
  mem : MemOk σ.mem w
  sep : ∀ i n, hp i ≠ none → σ i = some n → ∀ o, σ.mem n o = none
  low : ∀ b o v, σ.mem b o = some v → b < B → σ.low b o = some v
  kp : KpOk σ hp w
  rs : Rsv σ nx
theorem HRel.free {B : Nat} {σ : Env} {hp : Heap} {nx : Nat} {w : World} (h : HRel B σ hp nx w) {i : Nat} (hi : nx ≤ i) : Free σ i := ⟨(h.fresh i hi).1, (h.fresh i hi).2.1, (h.rs.not hi).1, (h.rs.not hi).2⟩

inductive DfL (σ : Env) : List DfA → List Deferred → Prop
  | nil : DfL σ [] []
  | cons {d : DfA} {D : Deferred} {ds : List DfA} {Ds : List Deferred} (h : RepDf σ d D) (t : DfL σ ds Ds) : DfL σ (d :: ds) (D :: Ds)
theorem DfL.mono {σ τ : Env} (e : Ext σ τ) {ds : List DfA} {Ds : List Deferred} (h : DfL σ ds Ds) : DfL τ ds Ds := by
  induction h with
  | nil => exact .nil
  | cons h _ ih => exact .cons (h.mono e) ih

structure Sat (rd : Bool) (w0 : World) (σ : Env) (s : St) (a : Go.Act) (w : World) : Prop where
  h : HRel w0.heap.size σ s.hp s.nx w
  tm : ∀ t, Rep σ (s.tm t) (a.tmps.getD t undef)
  n : a.tmps.size = s.n
  df : DfL σ s.df a.defers
  bl : Below w0.heap.size w0 w
  rd : s.rd = rd

theorem heap_lt {w : World} {n : Nat} {o : Obj} (h : w.heap[n]? = some o) : n < w.heap.size := (Array.getElem?_eq_some_iff.1 h).1
theorem cell_lt {w : World} {b o : Nat} {v : Value} (h : w.cell? ⟨b, o, none⟩ = some v) : b < w.heap.size := World.block_lt_of_cell? w ⟨b, o, none⟩ h

theorem ObRel.keep {B : Nat} {σ τ : Env} {w w' : World} {id : Nat} {o : Ob} (e : Ext σ τ) (hat : τ id = σ id) (hk : ∀ n, σ id = some n → w'.heap[n]? = w.heap[n]?) (h : ObRel B σ w id o) : ObRel B τ w' id o := by
  cases o with
  | blk b =>
    obtain ⟨n, vs, h1, h2, h3, h4⟩ := h
    exact ⟨n, vs, hat.trans h1, (hk n h1).trans h2, h3.mono e, h4⟩
  | arr A =>
    obtain ⟨v, us, h1, h2, h3, h4, h5⟩ := h
    refine ⟨v, us, e.3 _ _ h1, ⟨h2.1, ?_⟩, LR.mono (fun x vs => RepD.mono e.2 _ x vs) h3, h4, fun n => by rw [hat]; exact h5 n⟩
    rcases h2.2 with k | ⟨g, cap, cur, k1, k2, k3, k4⟩
    · exact .inl k
    · subst k1
      exact .inr ⟨g, cap, cur, rfl, k2, (hk g ((h5 g).1 rfl)).trans k3, k4⟩
  | lp r =>
    obtain ⟨n, L, h1, h2, h3, h4⟩ := h
    exact ⟨n, L, hat.trans h1, (hk n h1).trans h2, ⟨fun t => (h3.tm t).mono e, h3.n, h3.fn, h3.params, h3.assign, h3.body, h3.st, h3.pend⟩, h4⟩
  | dfr =>
    obtain ⟨n, h1, h2, h3⟩ := h
    exact ⟨n, hat.trans h1, (hk n h1).trans h2, h3⟩
  | it t pos =>
    obtain ⟨n, h1, h2, h3⟩ := h
    exact ⟨n, hat.trans h1, (hk n h1).trans h2, h3⟩
  | lit L =>
    obtain ⟨v, us, h1, h2, h3, h4, h5⟩ := h
    refine ⟨v, us, e.3 _ _ h1, ⟨h2.1, ?_⟩, h3.mono e, h4, fun n => by rw [hat]; exact h5 n⟩
    rcases h2.2 with k | ⟨g, cap, cur, k1, k2, k3, k4⟩
    · exact .inl k
    · subst k1
      exact .inr ⟨g, cap, cur, rfl, k2, (hk g ((h5 g).1 rfl)).trans k3, k4⟩
  | mp M =>
    obtain ⟨n, es, clock, h1, h2, h3, h4⟩ := h
    exact ⟨n, es, clock, hat.trans h1, (hk n h1).trans h2, h3.mono e.2 e.3, h4⟩

theorem MemOk.keep {m : Nat → Nat → Option Value} {w w' : World} (h : MemOk m w) (hk : ∀ n o v, m n o = some v → w'.heap[n]? = w.heap[n]?) : MemOk m w' := by
  intro b o v hb
  rw [World.cell?_of_block (a := ⟨b, o, none⟩) (hk b o v hb)]
  exact h b o v hb

theorem HRel.below {B : Nat} {σ : Env} {hp : Heap} {nx : Nat} {w w' : World} (h : HRel B σ hp nx w) (hb : Below w.heap.size w w') : HRel B σ hp nx w' := by
  refine ⟨fun id o hi => (h.ob id o hi).keep (Ext.refl σ) rfl fun n hn => hb.block n (h.bound id n hn), h.inj, h.fresh, fun i n hn => Nat.lt_of_lt_of_le (h.bound i n hn) hb.size, ?_, h.sep, h.low, h.kp.keep hb.size (fun n hn => hb.block n (kp_lt h.kp hn)) (fun _ h => h), h.rs⟩
  exact h.mem.keep fun n o v hv => hb.block n (cell_lt (h.mem n o v hv))

theorem beq_ne {i j : Nat} (h : i ≠ j) : Nat.beq i j = false := by
  cases hb : Nat.beq i j with
  | false => rfl
  | true => exact absurd (Nat.eq_of_beq_eq_true hb) h
theorem upd_same {β : Type} (f : Nat → β) (i : Nat) (x : β) : upd f i x i = x := by simp [upd]
theorem upd_other {β : Type} (f : Nat → β) {i j : Nat} (x : β) (h : j ≠ i) : upd f i x j = f j := by
  simp [upd, beq_ne h]

theorem Sat.eval {rd : Bool} {w0 : World} {σ : Env} {s : St} {a : Go.Act} {w : World} (h : Sat rd w0 σ s a w) (x : Operand) : Rep σ (s.eval x) (a.eval x) := by
  cases x with
  | tmp t => exact h.tm t
  | const v => exact rep_ofV σ v
  | global g => simp [St.eval, Go.Act.eval, Rep]
  | func f => simp [St.eval, Go.Act.eval, Rep, RepL]

theorem tm_put {σ : Env} {tm : Nat → AV} {tmps : Array Value} {x : AV} {v : Value} (h : ∀ t, Rep σ (tm t) (tmps.getD t undef)) (d : Nat) (hd : d < tmps.size) (hx : Rep σ x v) (t : Nat) : Rep σ (upd tm d x t) ((tmps.setIfInBounds d v).getD t undef) := by
  by_cases htd : t = d
  · subst htd
    rw [upd_same]
    simp [Array.getD, hd]
    exact hx
  · rw [upd_other _ _ htd]
    have := h t
    simp only [Array.getD_eq_getD_getElem?, Array.getElem?_setIfInBounds] at this ⊢
    simp only [if_neg (Ne.symm htd)]
    exact this

theorem Sat.put {rd : Bool} {w0 : World} {σ : Env} {s : St} {a : Go.Act} {w : World} (h : Sat rd w0 σ s a w) {o : Option Nat} (hd : o.getD 0 < s.n) {x : AV} {v : Value} (hx : Rep σ x v) : Sat rd w0 σ (s.put o x) (a.put o v) w := by
  cases o with
  | none => exact h
  | some d =>
    refine ⟨h.h, ?_, ?_, h.df, h.bl, h.rd⟩
    · exact tm_put h.tm d (by rw [h.n]; simpa using hd) hx
    · simp [Go.Act.put, St.put, h.n]

theorem Sat.mono {rd : Bool} {w0 : World} {σ τ : Env} {s : St} {a : Go.Act} {w w' : World} {hp : Heap} {nx : Nat} (h : Sat rd w0 σ s a w) (e : Ext σ τ) (hh : HRel w0.heap.size τ hp nx w') (hb : Below w0.heap.size w0 w') : Sat rd w0 τ { s with hp := hp, nx := nx } a w' :=
  ⟨hh, fun t => (h.tm t).mono e, h.n, h.df.mono e, hb, h.rd⟩

/-- the call's own objects lie in blocks of its own -/
theorem HRel.ge {B : Nat} {σ : Env} {hp : Heap} {nx : Nat} {w : World} (h : HRel B σ hp nx w) {id n : Nat} (hid : hp id ≠ none) (hn : σ id = some n) : B ≤ n := by
  cases ho : hp id with
  | none => exact absurd ho hid
  | some o =>
    have hk := h.ob id o ho
    cases o with
    | blk b => obtain ⟨m, vs, h1, _, _, h4⟩ := hk; rw [hn] at h1; cases h1; exact h4
    | arr A => obtain ⟨v, us, _, h2, _, _, h5⟩ := hk; exact (h2.lt n ((h5 n).2 hn)).1
    | lp r => obtain ⟨m, L, h1, _, _, h4⟩ := hk; rw [hn] at h1; cases h1; exact h4
    | dfr => obtain ⟨m, h1, _, h4⟩ := hk; rw [hn] at h1; cases h1; exact h4
    | it t pos => obtain ⟨m, h1, _, h4⟩ := hk; rw [hn] at h1; cases h1; exact h4
    | mp M => obtain ⟨m, es, clock, h1, _, _, h4⟩ := hk; rw [hn] at h1; cases h1; exact h4
    | lit L => obtain ⟨v, us, _, h2, _, _, h5⟩ := hk; exact (h2.lt n ((h5 n).2 hn)).1
/-- an object is laid or turned -/
theorem HRel.putOb {B : Nat} {σ τ : Env} {hp hp' : Heap} {nx nx' : Nat} {w w' : World} {id : Nat} {o : Ob} (h : HRel B σ hp nx w)
    (e : Ext σ τ) (hm : τ.mem = σ.mem) (hsub : ∀ j o, hp' j = some o → hp j = some o) (hid : id < nx') (hnx : nx ≤ nx')
    (hat : ∀ j, j ≠ id → τ j = σ j) (hsv : ∀ j, j ≠ id → τ.sv j = σ.sv j) (hsz : w.heap.size ≤ w'.heap.size)
    (keep : ∀ j n, j ≠ id → hp' j ≠ none → σ j = some n → w'.heap[n]? = w.heap[n]?)
    (kmem : ∀ n oo v, σ.mem n oo = some v → w'.heap[n]? = w.heap[n]?)
    (kkp : ∀ n, σ.kp n ≠ none → w'.heap[n]? = w.heap[n]?)
    (hob : ObRel B τ w' id o)
    (hnew : ∀ n, τ id = some n → n < w'.heap.size ∧ (∀ j, j ≠ id → hp' j ≠ none → σ j ≠ some n) ∧ (∀ oo, σ.mem n oo = none) ∧ σ.kp n = none)
    (hrs : Rsv τ nx') :
    HRel B τ (upd hp' id (some o)) nx' w' := by
  have hlive : ∀ j, hp' j ≠ none → hp j ≠ none := by
    intro j hj
    cases hc : hp' j with
    | none => exact absurd hc hj
    | some o => rw [hsub j o hc]; simp
  refine ⟨fun j p hj => ?_, fun i j n hi hj h1 h2 => ?_, fun i hi => ?_, fun i n hi => ?_, ?_, fun i n hi h1 oo => ?_, fun b oo v hv hlt => by rw [e.4]; rw [hm] at hv; exact h.low b oo v hv hlt, ⟨by rw [e.5.2.1]; exact Nat.le_trans h.kp.sz hsz, fun n o hn => by rw [e.5.1] at hn; exact (kkp n (by rw [hn]; simp)).trans (h.kp.ok n o hn), fun i n hi h1 => ?_, fun n o v hv => by rw [e.5.1]; rw [hm] at hv; exact h.kp.mem n o v hv⟩, hrs⟩
  · by_cases hjd : j = id
    · subst hjd
      rw [upd_same] at hj; cases hj
      exact hob
    · rw [upd_other _ _ hjd] at hj
      exact (h.ob j p (hsub j p hj)).keep e (hat j hjd) fun n hn => keep j n hjd (by rw [hj]; simp) hn
  · by_cases hid1 : i = id
    · by_cases hjd : j = id
      · rw [hid1, hjd]
      · subst hid1
        rw [upd_other _ _ hjd] at hj
        rw [hat j hjd] at h2
        exact absurd h2 ((hnew n h1).2.1 j hjd hj)
    · rw [upd_other _ _ hid1] at hi
      rw [hat i hid1] at h1
      by_cases hjd : j = id
      · subst hjd
        exact absurd h1 ((hnew n h2).2.1 i hid1 hi)
      · rw [upd_other _ _ hjd] at hj
        rw [hat j hjd] at h2
        exact h.inj i j n (hlive i hi) (hlive j hj) h1 h2
  · have hne : i ≠ id := by omega
    obtain ⟨f1, f2, f3⟩ := h.fresh i (by omega)
    refine ⟨(hat i hne).trans f1, (hsv i hne).trans f2, ?_⟩
    rw [upd_other _ _ hne]
    cases hc : hp' i with
    | none => rfl
    | some o => rw [hsub i o hc] at f3; cases f3
  · by_cases hid1 : i = id
    · subst hid1; exact (hnew n hi).1
    · rw [hat i hid1] at hi; exact Nat.lt_of_lt_of_le (h.bound i n hi) hsz
  · rw [hm]; exact h.mem.keep kmem
  · rw [hm]
    by_cases hid1 : i = id
    · subst hid1; exact (hnew n h1).2.2.1 oo
    · rw [upd_other _ _ hid1] at hi
      rw [hat i hid1] at h1
      exact h.sep i n (hlive i hi) h1 oo
  · rw [e.5.1]
    by_cases hid1 : i = id
    · subst hid1; exact (hnew n h1).2.2.2
    · rw [upd_other _ _ hid1] at hi
      rw [hat i hid1] at h1
      exact h.kp.sep i n (hlive i hi) h1

/-- objects are given up -/
theorem HRel.less {B : Nat} {σ : Env} {hp hp' : Heap} {nx : Nat} {w : World} (h : HRel B σ hp nx w) (hsub : ∀ j o, hp' j = some o → hp j = some o) : HRel B σ hp' nx w := by
  have hlive : ∀ j, hp' j ≠ none → hp j ≠ none := by
    intro j hj
    cases hc : hp' j with
    | none => exact absurd hc hj
    | some o => rw [hsub j o hc]; simp
  refine ⟨fun j o hj => h.ob j o (hsub j o hj), fun i j n hi hj => h.inj i j n (hlive i hi) (hlive j hj), fun i hi => ?_, h.bound, h.mem, fun i n hi => h.sep i n (hlive i hi), h.low, h.kp.keep (Nat.le_refl _) (fun _ _ => rfl) hlive, h.rs⟩
  obtain ⟨f1, f2, f3⟩ := h.fresh i hi
  refine ⟨f1, f2, ?_⟩
  cases hc : hp' i with
  | none => rfl
  | some o => rw [hsub i o hc] at f3; cases f3
theorem less_none (hp : Heap) (id : Nat) : ∀ j o, upd hp id none j = some o → hp j = some o := by
  intro j o hj
  by_cases hjd : j = id
  · subst hjd; rw [upd_same] at hj; cases hj
  · rwa [upd_other _ _ hjd] at hj

/-- the environment with one more number -/
def Env.add (σ : Env) (id : Nat) (n : Option Nat) (v : Option Value) : Env := { σ with at_ := upd σ.at_ id n, sv := upd σ.sv id v }
theorem Env.add_ext {σ : Env} {id : Nat} {n : Option Nat} {v : Option Value} (h1 : σ id = none) (h2 : σ.sv id = none) : Ext σ (σ.add id n v) := by
  refine ⟨fun i b hi => ?_, fun _ _ _ h => h, fun i u hi => ?_, rfl, rfl, rfl, rfl, rfl⟩
  · show upd σ.at_ id n i = _
    rw [upd_other _ _ (fun e => by rw [e, h1] at hi; cases hi)]; exact hi
  · show upd σ.sv id v i = _
    rw [upd_other _ _ (fun e => by rw [e, h2] at hi; cases hi)]; exact hi

theorem mem_old {σ : Env} {w : World} (h : MemOk σ.mem w) {n oo : Nat} {v : Value} (hv : σ.mem n oo = some v) : n < w.heap.size := cell_lt (h n oo v hv)
theorem mem_new {σ : Env} {w : World} (h : MemOk σ.mem w) {n : Nat} (hn : w.heap.size ≤ n) (oo : Nat) : σ.mem n oo = none := by
  cases hc : σ.mem n oo with
  | none => rfl
  | some v => have := mem_old h hc; omega

/-- a new object in a new block -/
theorem HRel.new {B : Nat} {σ : Env} {hp : Heap} {nx : Nat} {w : World} (h : HRel B σ hp nx w) {obj : Obj} {o : Ob} {sv : Option Value}
    (hob : ∀ τ, Ext σ τ → τ.mem = σ.mem → τ nx = some w.heap.size → τ.sv nx = sv → ObRel B τ (w.alloc obj) nx o) :
    ∃ τ, Ext σ τ ∧ τ nx = some w.heap.size ∧ τ.sv nx = sv ∧ HRel B τ (upd hp nx (some o)) (nx + 1) (w.alloc obj) := by
  obtain ⟨f1, f2, f3⟩ := h.fresh nx (Nat.le_refl _)
  have he : Ext σ (σ.add nx (some w.heap.size) sv) := Env.add_ext f1 f2
  have hs : (w.alloc obj).heap.size = w.heap.size + 1 := by simp
  refine ⟨_, he, upd_same _ _ _, upd_same _ _ _, ?_⟩
  refine h.putOb he rfl (fun _ _ h => h) (by omega) (by omega) (fun j hj => upd_other _ _ hj) (fun j hj => upd_other _ _ hj) (by omega) ?_ ?_ ?_ (hob _ he rfl (upd_same _ _ _) (upd_same _ _ _)) ?_ (Free.rsv (h.rs.not (Nat.le_refl _)).1 (h.rs.not (Nat.le_refl _)).2 h.rs (by omega) rfl rfl (fun j hj => upd_other _ _ hj) (fun j hj => upd_other _ _ hj))
  · intro j n _ _ hn; exact Below.heap_alloc _ _ _ (h.bound j n hn)
  · intro n oo v hv; exact Below.heap_alloc _ _ _ (mem_old h.mem hv)
  · intro n hn; exact Below.heap_alloc _ _ _ (kp_lt h.kp hn)
  · intro n hn
    have : n = w.heap.size := by
      have e : (σ.add nx (some w.heap.size) sv) nx = some w.heap.size := upd_same _ _ _
      rw [e] at hn; cases hn; rfl
    subst this
    refine ⟨by omega, fun j _ _ hj => ?_, mem_new h.mem (Nat.le_refl _), kp_new h.kp (Nat.le_refl _)⟩
    exact absurd (h.bound j _ hj) (Nat.lt_irrefl _)

theorem below_setRow {B : Nat} {w0 w : World} (h : Below B w0 w) {n : Nat} (hn : B ≤ n) (cs : Array Value) : Below B w0 (w.setRow n cs) :=
  h.trans ⟨rfl, rfl, rfl, by rw [setRow_size]; exact Nat.le_refl _, fun k hk => setRow_other w n k cs (by omega)⟩

/-- an object that lies in a row of cells is turned -/
theorem HRel.turn {B : Nat} {σ : Env} {hp : Heap} {nx : Nat} {w : World} (h : HRel B σ hp nx w) {id n : Nat} {o : Ob} (hid : hp id ≠ none) (hn : σ id = some n) (cs : Array Value) (hob : ObRel B σ (w.setRow n cs) id o) :
    HRel B σ (upd hp id (some o)) nx (w.setRow n cs) := by
  have hlt : id < nx := by
    rcases Nat.lt_or_ge id nx with x | x
    · exact x
    · exact absurd (h.fresh id x).2.2 hid
  refine h.putOb (Ext.refl σ) rfl (fun _ _ h => h) hlt (Nat.le_refl _) (fun _ _ => rfl) (fun _ _ => rfl) (by rw [setRow_size]; exact Nat.le_refl _) ?_ ?_ ?_ hob ?_ h.rs
  · intro j k hj hpj hk
    exact setRow_other w n k cs (fun e => hj (h.inj j id n hpj hid (e ▸ hk) hn))
  · intro k oo v hv
    refine setRow_other w n k cs (fun e => ?_)
    subst e
    rw [h.sep id k hid hn oo] at hv; cases hv
  · intro k hk
    refine setRow_other w n k cs (fun e => ?_)
    subst e
    exact hk (h.kp.sep id k hid hn)
  · intro k hk
    rw [hn] at hk; cases hk
    refine ⟨by rw [setRow_size]; exact h.bound id n hn, fun j hj hpj hjn => hj (h.inj j id n hpj hid hjn hn), h.sep id n hid hn, h.kp.sep id n hid hn⟩

mutual
theorem RepD.one {m : Nat → Nat → Option Value} : ∀ (c : TC) (x : TCT c) (vs : List Value), RepD m c x vs → ∀ v ∈ vs, v.oneCell' = true
  | .b, _, _, h => by simp only [RepD] at h; subst h; simp [Value.oneCell']
  | .i _, _, _, h => by simp only [RepD] at h; rw [h.1]; simp [Value.oneCell']
  | .s, _, _, h => by simp only [RepD] at h; subst h; simp [Value.oneCell']
  | .sl c, xs, vs, h => by
    have h0 := h
    simp only [RepD] at h
    obtain ⟨v, rfl, _⟩ := h
    intro u hu
    simp at hu; subst hu
    exact slD_one h0
  | .st cs, x, vs, h => by simp only [RepD] at h; exact RepDs.one cs x vs h
theorem RepDs.one {m : Nat → Nat → Option Value} : ∀ (cs : List TC) (x : TCTs cs) (vs : List Value), RepDs m cs x vs → ∀ v ∈ vs, v.oneCell' = true
  | [], _, _, h => by simp only [RepDs] at h; subst h; simp
  | c :: cs, x, vs, h => by
    simp only [RepDs] at h
    obtain ⟨a, b, rfl, h1, h2⟩ := h
    intro v hv
    rcases List.mem_append.1 hv with hv | hv
    · exact RepD.one c x.1 a h1 v hv
    · exact RepDs.one cs x.2 b h2 v hv
end
theorem LR.all {T : Type} {R : T → List Value → Prop} {Q : Value → Prop} (h : ∀ x vs, R x vs → ∀ v ∈ vs, Q v) : ∀ {xs : List T} {vs : List Value}, LR R xs vs → ∀ v ∈ vs, Q v
  | [], _, k => by simp only [LR] at k; subst k; simp
  | x :: xs, vs, ⟨a, b, e, k1, k2⟩ => by
    subst e
    intro v hv
    rcases List.mem_append.1 hv with hv | hv
    · exact h x a k1 v hv
    · exact LR.all h k2 v hv

theorem setsA_take : ∀ (us : List Value) (cs : List Value) (off n : Nat), off + us.length ≤ n → (setsA cs off us).take n = setsA (cs.take n) off us
  | [], cs, off, n, _ => rfl
  | u :: us, cs, off, n, h => by
    simp only [setsA, setA_eq]
    rw [setsA_take us (cs.set off u) (off + 1) n (by simp at h; omega), List.take_set]
theorem setsA_in : ∀ (q t us : List Value) (col : Nat), col + us.length ≤ q.length → setsA (q ++ t) col us = setsA q col us ++ t
  | q, t, [], col, _ => rfl
  | q, t, u :: us, col, h => by
    simp only [setsA, setA_eq]
    rw [List.set_append_left _ _ (by simp at h; omega)]
    exact setsA_in (q.set col u) t us (col + 1) (by simp at h ⊢; omega)

/-! append -/
section
variable {P : Program}
theorem append_own {w : World} {B : Nat} {t tr e : TypeId} {i : TypeInfo} {z : Value} (ht : P.underlying t = some (.slice e)) (hi : P.info? e = some i) (hz : i.zero = some z) (hzs : z.cells.size = i.size) (hsz : 0 < i.size)
    {v : Value} {n : Nat} {xs : List Value} (hown : w.ownsRow B e i.size v n xs) {u : Value} {m : Nat} {news : List Value}
    (hu : (u = .slice none 0 0 ∧ m = 0) ∨ ∃ ad c, u = .slice (some ad) m c ∧ ∀ (j : Nat) (y : Value), news[j]? = some y → w.cell? (ad.add j) = some y) (hl : news.length = m * i.size) (h1 : ∀ y ∈ news, y.oneCell' = true)
    (hbytes : (n + m) * i.bytes ≤ 140737488355328) (h63 : n + m ≤ maxLen) (hB : B ≤ w.heap.size) :
    ∃ v' w', (Builtin.append_ #[t, t] tr #[v, u]).run P w = .ok v' w' ∧ w'.ownsRow B e i.size v' (n + m) (xs ++ news) ∧ w.grownBy w' v.ownBlock ∧ (v'.ownBlock = v.ownBlock ∨ v'.ownBlock = some w.heap.size) := by
  rcases hu with ⟨rfl, rfl⟩ | ⟨ad, c, rfl, hnews⟩
  · have hn : news = [] := List.eq_nil_of_length_eq_zero (by simpa using hl)
    subst hn
    refine ⟨v, w, ?_, by simpa using hown, ⟨rfl, rfl, rfl, Nat.le_refl _, fun _ _ _ => rfl⟩, .inl rfl⟩
    rcases hown.2 with ⟨rfl, rfl⟩ | ⟨g, cap, cur, rfl, _, _, hcap, _⟩
    · simp [Builtin.append_, run_underlying ht, sizeOf, typeInfo, hi, Builtin.lenOf, Builtin.firstCells]
    · simp [Builtin.append_, run_underlying ht, sizeOf, typeInfo, hi, Builtin.lenOf, Builtin.firstCells, hcap, storeCells]
  · obtain ⟨v', w', hr, h2, h3, h4⟩ := run_append_own (P := P) w B t tr e i z i.size i.bytes ht hi hz rfl rfl hzs hsz v n xs hown ad m c news hl hnews h1 h63 hbytes hB
    refine ⟨v', w', hr, h2, h3, ?_⟩
    have h63' : n + m ≤ 9223372036854775807 := by simp only [maxLen] at h63; omega
    rcases hown.2 with ⟨rfl, rfl⟩ | ⟨g, cap, cur, rfl, hbg, hg, hnc, hcm, hcs, htake⟩
    · by_cases hm : m = 0
      · subst hm
        have := h4.2 ⟨rfl, rfl⟩
        subst this
        exact .inl rfl
      · have hr2 := run_append_nil (P := P) w t tr e i z ht hi hz ad m c news hl hnews (by omega) (by omega) (by have hb := hbytes; simp only [Nat.zero_add] at hb; omega)
        rw [hr] at hr2
        cases hr2
        exact .inr rfl
    · by_cases hroom : n + m ≤ cap
      · have hfit : n * i.size + news.length ≤ cur.size := by rw [hl, hcs, ← Nat.add_mul]; exact Nat.mul_le_mul_right _ hroom
        have hr2 := run_append_room (P := P) w t tr e i ht hi g n cap cur hg ad m c news hl hnews h1 hroom hfit
        rw [hr] at hr2
        cases hr2
        exact .inl rfl
      · have holds : ∀ j u, xs[j]? = some u → w.cell? ((⟨g, 0, none⟩ : Addr).add j) = some u := hown.cells (g := g) rfl
        have hr2 := run_append_grow (P := P) w t tr e i z ht hi hz ⟨g, 0, none⟩ n cap xs hown.1 holds ad m c news hl hnews (by omega) (by omega) (growslice_fits (by omega) hbytes)
        rw [hr] at hr2
        cases hr2
        exact .inr rfl
end
end V
end Go.Proofs.Ytgchccljmjmibaa
/- That the symbolic evaluator of the text Va is sound, third part: what an operation does; operations in order. -/
namespace Go.Proofs.Ytgchccljmjmibaa
open Go.RowKit
namespace V

/-- the two ways to say how code is left -/
def ExR (τ : Env) : XE → Exit → Prop
  | .normal, .normal => True
  | .exit i, .exit j => i = j
  | .ret, .ret => True
  | .panic x, .panic ch => ∃ v, Rep τ x v ∧ ch = [{ v, recovered := false }]
  | _, _ => False
/-- the two ways to say what a call comes to -/
def OutR (τ : Env) : Out → Ending → Prop
  | .ret x, .returned v => Rep τ x v
  | .pan x, .panicked ch => ∃ v, Rep τ x v ∧ ch = [{ v, recovered := false }]
  | _, _ => False
def CRes {α : Type} (w0 : World) (σ : Env) (K : Out → Heap → Nat → Tree α) (R : α → Prop) (e : Ending) (w' : World) : Prop :=
  ∃ y τ hp' nx', Ext σ τ ∧ HRel w0.heap.size τ hp' nx' w' ∧ Below w0.heap.size w0 w' ∧ OutR τ y e ∧ (K y hp' nx').sat R
/-- what a handler of calls owes -/
def CTok (P : Program) {α : Type} (cT : CallT α) (R : α → Prop) : Prop :=
  ∀ (w0 : World) (σ : Env) (hp : Heap) (nx : Nat) (w : World) (c : Callee') (xs : List AV) (us : List Value) (K : Out → Heap → Nat → Tree α),
    HRel w0.heap.size σ hp nx w → Below w0.heap.size w0 w → RepL σ xs us → (cT c xs hp nx K).sat R →
    match c with
    | .fn f => (callFunc f us.toArray).run P w = .ok (.enter f us.toArray) w ∧ Calls' P f us.toArray w (CRes w0 σ K R)
    | .yld id => ∀ b, σ id = some b → ∃ l f tmps assign body, (Instr.yield b us.toArray).run P w = .ok (.round l f tmps assign body) w ∧ RoundX P l f tmps assign body w (CRes w0 σ K R)

section
variable {P : Program} {α : Type} {cT : CallT α} {R : α → Prop}

theorem castL_len {c d : TC} {xs : List (TCT c)} {ys : List (TCT d)} (h : castL c d xs = some ys) : ys.length = xs.length :=
  castL_rep h (Q := fun _ zs => zs.length = xs.length) rfl
theorem castL_size {c d : TC} {xs : List (TCT c)} {ys : List (TCT d)} (h : castL c d xs = some ys) : c.size = d.size :=
  castL_rep h (Q := fun e _ => c.size = e.size) rfl

/-- the source of an append -/
theorem src_rep {B : Nat} {σ : Env} {hp : Heap} {nx : Nat} {w : World} (hh : HRel B σ hp nx w) {c : TC} {st : Nat} {src : AV} {ys : List (TCT c)} {u : Value} (hc : c.size = st) (hs : srcRows hp c st src = some ys) (hu : Rep σ src u) :
    ∃ news, LR (RepD σ.mem c) ys news ∧ ((u = .slice none 0 0 ∧ ys.length = 0) ∨ ∃ ad cc, u = .slice (some ad) ys.length cc ∧ ∀ (j : Nat) (y : Value), news[j]? = some y → w.cell? (ad.add j) = some y) := by
  subst hc
  unfold srcRows at hs
  split at hs <;> try (simp at hs; done)
  · rename_i d xs
    simp only [Rep] at hu
    have hu' : RepD σ.mem (.sl c) ys [u] := castL_rep hs (Q := fun e zs => RepD σ.mem (.sl e) zs [u]) hu
    rcases slD_cases hu' with ⟨rfl, rfl⟩ | ⟨b, o, s, cap, us, rfl, h2, h3, ⟨hs4, h4⟩, h5⟩
    · exact ⟨[], by simp [LR], .inl ⟨rfl, rfl⟩⟩
    · refine ⟨us, h5, .inr ⟨⟨b, o, s⟩, cap, rfl, fun j y hj => ?_⟩⟩
      have : s = none := hs4.resolve_left fun e => by rw [e] at hj; simp at hj
      rw [this, Addr.add_lit]
      exact hh.mem _ _ _ (h4 j y hj)
  · rename_i id
    split at hs <;> try (simp at hs; done)
    rename_i A hA
    obtain ⟨v, us, h1, h2, h3, h4, h5⟩ := hh.ob id _ hA
    simp only [Rep] at hu
    have e : v = u := Option.some.inj (h1.symm.trans hu.1)
    subst e
    have hlen := castL_len hs
    have h3' : LR (RepD σ.mem c) ys us := castL_rep hs (Q := fun e zs => LR (RepD σ.mem e) zs us) h3
    refine ⟨us, h3', ?_⟩
    rcases h2.2 with ⟨rfl, k⟩ | ⟨g, cap, cur, rfl, k2, k3, k4⟩
    · exact .inl ⟨rfl, by omega⟩
    · refine .inr ⟨⟨g, 0, none⟩, cap, by rw [hlen], fun j y hj => ?_⟩
      exact h2.cells (g := g) rfl j y hj
  · rename_i id off st' len cap
    split at hs <;> try (simp at hs; done)
    rename_i b hb
    cases hbb : (Nat.beq c.size st' && Nat.ble (off + len * c.size) (lenA b.cs)) with
    | false => simp [hbb] at hs
    | true =>
      simp only [hbb, cond_true] at hs
      simp only [Bool.and_eq_true, Nat.beq_eq, Nat.ble_eq, lenA_eq, takeA_eq, dropA_eq] at hbb hs
      obtain ⟨n, vs, h1, h2, h3, h4⟩ := hh.ob id _ hb
      simp only [Rep] at hu
      obtain ⟨_, _, b', hb', rfl⟩ := hu
      rw [h1] at hb'; cases hb'
      have hcl : ((b.cs.drop off).take (len * c.size)).length = len * c.size := by simp; omega
      obtain ⟨k1, k2⟩ := decRows_rep len _ _ ys hs ((h3.drop off).take _) hcl
      refine ⟨_, k1, .inr ⟨⟨n, off, none⟩, cap, by rw [k2], fun j y hj => ?_⟩⟩
      rw [Addr.add_lit, cell_of_row w n (off + j) vs.toArray b.ty (0, 0) h2]
      rw [List.getElem?_take] at hj
      split at hj
      · rw [List.getElem?_drop] at hj; simpa using hj
      · simp at hj
  · simp only [Option.some.injEq] at hs
    subst hs
    simp only [Rep] at hu
    exact ⟨[], by simp [LR], .inl ⟨hu, rfl⟩⟩
  · rename_i id row st' n
    cases hbb : Nat.beq c.size st' with
    | false => simp [hbb] at hs
    | true =>
      have hst : c.size = st' := by simpa using hbb
      subst hst
      simp only [hbb, cond_true] at hs
      split at hs <;> try (simp at hs; done)
      rename_i A hA
      obtain ⟨xs, hx, rfl⟩ := Option.map_eq_some_iff.1 hs
      simp only [Rep] at hu
      obtain ⟨ad, len, cc, ap, cap, e1, rfl, e2, e4, e3⟩ := hu
      obtain ⟨v, us, h1, h2, h3, h4, h5⟩ := hh.ob id _ hA
      rw [e1] at h1; cases h1
      have hlen := castL_len hx
      have h3' : LR (RepD σ.mem c) xs us := castL_rep hx (Q := fun e zs => LR (RepD σ.mem e) zs us) h3
      have hul := LR.len (fun x vs => RepD.len c x vs) h3'
      have hll : A.xs.length = len := by
        rcases h2.2 with ⟨k, k'⟩ | ⟨g, cap, cur, k, _⟩
        · cases k; omega
        · cases k; rfl
      refine ⟨(us.drop (row * c.size)).take (n * c.size), LR.take (fun x vs => RepD.len c x vs) n (LR.drop (fun x vs => RepD.len c x vs) row h3' (by omega)) (by simp; omega), ?_⟩
      have hwl : ((xs.drop row).take n).length = n := by simp; omega
      rw [hwl]
      by_cases h0 : n = 0
      · subst h0
        cases ap with
        | none => exact .inl ⟨by rw [e4 rfl], rfl⟩
        | some ap => exact .inr ⟨ap, cap, rfl, fun j y hj => by simp at hj⟩
      · rcases h2.2 with ⟨k, k'⟩ | ⟨g, cap', cur, k, k2, k3, k4⟩
        · omega
        · cases k
          rw [e3 g rfl (by omega)]
          refine .inr ⟨⟨g, row * c.size, none⟩, cap, rfl, fun j y hj => ?_⟩
          have := h2.cells (g := g) rfl
          rw [List.getElem?_take] at hj
          split at hj
          · rw [List.getElem?_drop] at hj
            have := this (row * c.size + j) y hj
            rw [Addr.add_lit, Nat.zero_add] at this
            rw [Addr.add_lit]
            exact this
          · cases hj

def DidOk (hp : Heap) (σ : Env) (v : Value) : Option Nat → Prop
  | some d => hp d ≠ none ∧ ∀ n, v.ownBlock = some n ↔ σ d = some n
  | none => v.ownBlock = none
/-- what an append leaves -/
theorem app_put {rd : Bool} {w0 : World} {σ : Env} {s : St} {a : Go.Act} {w : World} {o : Oper} {K : XE → St → Tree α} {r : Result Next} {ty : TypeId} {bytes : Nat} {t tr : TypeId} {v u : Value} {i : TypeInfo} {z : Value}
    (hS : Sat rd w0 σ s a w) (hd : o.dst.getD 0 < s.n) (ht : P.underlying t = some (.slice ty)) (hi : P.info? ty = some i) (hz : i.zero = some z) (hzs : z.cells.size = i.size) (hsz : 0 < i.size) (hby1 : 1 ≤ bytes) (hby : i.bytes = bytes)
    (hr : r = (do pure (Next.value (← Builtin.append_ #[t, t] tr #[v, u])) : Sem Next).run P w)
    {n m : Nat} {us news : List Value} {did : Option Nat} (d1 : w.ownsRow w0.heap.size ty i.size v n us) (d3 : DidOk s.hp σ v did)
    (n2 : (u = .slice none 0 0 ∧ m = 0) ∨ ∃ ad cc, u = .slice (some ad) m cc ∧ ∀ (j : Nat) (y : Value), news[j]? = some y → w.cell? (ad.add j) = some y)
    (hnl : news.length = m * i.size) (h1 : ∀ y ∈ news, y.oneCell' = true) (hle' : (n + m) * bytes ≤ 140737488355328) {ob : Ob}
    (hob : ∀ (τ : Env) (w' : World) (v' : Value), Ext σ τ → τ.sv s.nx = some v' → World.ownsRow w' w0.heap.size ty i.size v' (n + m) (us ++ news) → (∀ k, v'.ownBlock = some k ↔ τ s.nx = some k) → ObRel w0.heap.size τ w' s.nx ob)
    (h : (K .normal ({ s with hp := upd (hpLess s.hp did) s.nx (some ob), nx := s.nx + 1 }.put o.dst (.own s.nx))).sat R) :
    ∃ v τ s' w', r = .ok (.value v) w' ∧ Ext σ τ ∧ Sat rd w0 τ s' (a.put o.dst v) w' ∧ (K .normal s').sat R := by
  have hh := hS.h
  have h63 : n + m ≤ maxLen := by
    have := Nat.le_mul_of_pos_right (n + m) (show 0 < bytes by omega)
    simp only [maxLen]; omega
  obtain ⟨v', w', a1, a2, a3, a4⟩ := append_own (P := P) (tr := tr) ht hi hz hzs hsz d1 (u := u) (m := m) (news := news) n2 hnl h1 (by rw [hby]; exact hle') h63 hS.bl.size
  obtain ⟨f1, f2, f3⟩ := hh.fresh s.nx (Nat.le_refl _)
  have hext : Ext σ (σ.add s.nx v'.ownBlock (some v')) := Env.add_ext f1 f2
  have hsl : ∃ aa n cap, v' = .slice aa n cap := by
    rcases a2.2 with ⟨k, _⟩ | ⟨g, cap, cur, k, _⟩
    · exact ⟨none, 0, 0, k⟩
    · exact ⟨_, _, _, k⟩
  have hsub : ∀ j o, (hpLess s.hp did) j = some o → s.hp j = some o := by
    intro j o hj
    cases did with
    | none => exact hj
    | some d => exact less_none s.hp d j o hj
  have hlive : ∀ j, (hpLess s.hp did) j ≠ none → s.hp j ≠ none := by
    intro j hj
    cases hc : (hpLess s.hp did) j with
    | none => exact absurd hc hj
    | some o => rw [hsub j o hc]; simp
  have hoth : ∀ j n, (hpLess s.hp did) j ≠ none → σ j = some n → some n ≠ v.ownBlock := by
    intro j n hj hn e
    cases did with
    | none => rw [show v.ownBlock = none from d3] at e; cases e
    | some d =>
      replace d3 : s.hp d ≠ none ∧ ∀ n, v.ownBlock = some n ↔ σ d = some n := d3
      replace hj : upd s.hp d none j ≠ none := hj
      have hjd : j ≠ d := fun e' => by subst e'; rw [upd_same] at hj; exact hj rfl
      rw [upd_other _ _ hjd] at hj
      exact hjd (hh.inj j d n hj d3.1 hn ((d3.2 n).1 e.symm))
  have hmo : ∀ n oo vv, σ.mem n oo = some vv → some n ≠ v.ownBlock := by
    intro n oo vv hv' e
    cases did with
    | none => rw [show v.ownBlock = none from d3] at e; cases e
    | some d =>
      replace d3 : s.hp d ≠ none ∧ ∀ n, v.ownBlock = some n ↔ σ d = some n := d3
      rw [hh.sep d n d3.1 ((d3.2 n).1 e.symm) oo] at hv'; cases hv'
  have hko : ∀ n, σ.kp n ≠ none → some n ≠ v.ownBlock := by
    intro n hn e
    cases did with
    | none => rw [show v.ownBlock = none from d3] at e; cases e
    | some d =>
      replace d3 : s.hp d ≠ none ∧ ∀ n, v.ownBlock = some n ↔ σ d = some n := d3
      exact hn (hh.kp.sep d n d3.1 ((d3.2 n).1 e.symm))
  have hH : HRel w0.heap.size (σ.add s.nx v'.ownBlock (some v')) (upd (hpLess s.hp did) s.nx (some ob)) (s.nx + 1) w' := by
    refine hh.putOb hext rfl hsub (by omega) (by omega) (fun j hj => upd_other _ _ hj) (fun j hj => upd_other _ _ hj) a3.size ?_ ?_ ?_ ?_ ?_ (Free.rsv (hh.rs.not (Nat.le_refl _)).1 (hh.rs.not (Nat.le_refl _)).2 hh.rs (by omega) rfl rfl (fun j hj => upd_other _ _ hj) (fun j hj => upd_other _ _ hj))
    · intro j n hj hpj hn
      exact a3.block n (hh.bound j n hn) (hoth j n hpj hn)
    · intro n oo vv hv'
      exact a3.block n (mem_old hh.mem hv') (hmo n oo vv hv')
    · intro n hn
      exact a3.block n (kp_lt hh.kp hn) (hko n hn)
    · refine hob _ w' v' hext (upd_same _ _ _) a2 fun k => ?_
      have : (σ.add s.nx v'.ownBlock (some v')) s.nx = v'.ownBlock := upd_same _ _ _
      rw [this]
    · intro n hn
      have hn' : v'.ownBlock = some n := by
        have : (σ.add s.nx v'.ownBlock (some v')) s.nx = v'.ownBlock := upd_same _ _ _
        rw [this] at hn; exact hn
      refine ⟨(a2.lt n hn').2, fun j hj hpj hjn => ?_, fun oo => ?_, ?_⟩
      · rcases a4 with k | k
        · exact hoth j n hpj hjn (by rw [← k]; exact hn'.symm)
        · rw [hn'] at k; cases k
          exact absurd (hh.bound j _ hjn) (Nat.lt_irrefl _)
      · cases hcm : σ.mem n oo with
        | none => rfl
        | some vv =>
          rcases a4 with k | k
          · exact absurd (by rw [← k]; exact hn'.symm) (hmo n oo vv hcm)
          · rw [hn'] at k; cases k
            exact absurd (mem_old hh.mem hcm) (Nat.lt_irrefl _)
      · cases hcm : σ.kp n with
        | none => rfl
        | some vv =>
          rcases a4 with k | k
          · exact absurd (by rw [← k]; exact hn'.symm) (hko n (by rw [hcm]; simp))
          · rw [hn'] at k; cases k
            exact absurd (kp_lt hh.kp (by rw [hcm]; simp)) (Nat.lt_irrefl _)
  have hB : Below w0.heap.size w0 w' := by
    refine hS.bl.trans ⟨a3.os, a3.tape, a3.output, a3.size, fun k hk => a3.block k (Nat.lt_of_lt_of_le hk hS.bl.size) ?_⟩
    intro e
    rcases d1.2 with ⟨rfl, _⟩ | ⟨g, cap, cur, rfl, hbg, _⟩
    · cases e
    · simp [Value.ownBlock] at e; omega
  have hS' := hS.mono hext hH hB
  refine ⟨v', _, _, w', ?_, hext, hS'.put (o := o.dst) hd (x := .own s.nx) (v := v') ?_, h⟩
  · rw [hr]
    simp only [Sem.run_bind, a1, Result.andThen_ok, Sem.run_pure]
  · simp only [Rep]
    exact ⟨upd_same _ _ _, hsl⟩
theorem app_sound {rd : Bool} {w0 : World} {σ : Env} {s : St} {a : Go.Act} {w : World} {o : Oper} {K : XE → St → Tree α} {r : Result Next} {ty : TypeId} {bytes st : Nat} {c : Option TC} {dst src : AV}
    (hS : Sat rd w0 σ s a w) (hd : o.dst.getD 0 < s.n) (he : AOk P σ w r (.app ty bytes st c dst src)) (h : (evApp o.dst s K ty bytes st c dst src).sat R) :
    ∃ v τ s' w', r = .ok (.value v) w' ∧ Ext σ τ ∧ Sat rd w0 τ s' (a.put o.dst v) w' ∧ (K .normal s').sat R := by
  obtain ⟨t, tr, v, u, i, z, hv, hu, ht, hi, hz, hst, hby, hzs, hst0, hby1, hr⟩ := he
  unfold evApp at h
  cases c with
  | none =>
    simp only at h
    split at h
    case h_2 => simp [Tree.sat] at h
    rename_i cs n did ds m hds hsr
    cases hle : (decide (((n + m : Nat) : Int) * bytes ≤ 140737488355328) && ds.all one) with
    | false => rw [hle, cond_false] at h; exact h.elim
    | true =>
      rw [hle, cond_true] at h
      rw [Bool.and_eq_true] at hle
      have hle' : (n + m) * bytes ≤ 140737488355328 := by
        have := of_decide_eq_true hle.1
        omega
      have hh := hS.h
      have hsrc : ∃ news, RepL σ ds news ∧ ((u = .slice none 0 0 ∧ m = 0) ∨ ∃ ad cc, u = .slice (some ad) m cc ∧ ∀ (j : Nat) (y : Value), news[j]? = some y → w.cell? (ad.add j) = some y) ∧ news.length = m * st := by
        unfold litSrc at hsr
        split at hsr <;> try (simp at hsr; done)
        rename_i id off st' len cap
        split at hsr <;> try (simp at hsr; done)
        rename_i b hb
        cases hbb : (Nat.beq st st' && Nat.ble (off + len * st) (lenA b.cs)) with
        | false => simp [hbb] at hsr
        | true =>
          simp only [hbb, cond_true, Option.some.injEq, Prod.mk.injEq] at hsr
          simp only [Bool.and_eq_true, Nat.beq_eq, Nat.ble_eq, lenA_eq] at hbb
          obtain ⟨hb1, hb2⟩ := hbb
          obtain ⟨rfl, rfl⟩ := hsr
          obtain ⟨g, vs, h1, h2, h3, h4⟩ := hh.ob id _ hb
          simp only [Rep] at hu
          obtain ⟨_, _, b', hb', rfl⟩ := hu
          rw [h1] at hb'; cases hb'
          simp only [takeA_eq, dropA_eq]
          refine ⟨(vs.drop off).take (len * st), (h3.drop off).take _, .inr ⟨⟨g, off, none⟩, cap, rfl, fun j y hj => ?_⟩, ?_⟩
          · rw [Addr.add_lit, cell_of_row w g (off + j) vs.toArray b.ty (0, 0) h2]
            rw [List.getElem?_take] at hj
            split at hj
            · rw [List.getElem?_drop] at hj; simpa using hj
            · simp at hj
          · have := h3.length
            simp only [List.length_take, List.length_drop]; omega
      obtain ⟨news, n1, n2, hnl⟩ := hsrc
      have hdst : ∃ us, w.ownsRow w0.heap.size ty i.size v n us ∧ RepL σ cs us ∧ DidOk s.hp σ v did := by
        unfold litDst at hds
        split at hds <;> try (simp at hds; done)
        · rename_i d
          split at hds <;> try (simp at hds; done)
          rename_i L hL
          cases hty : (Nat.beq L.ty ty && Nat.beq L.st st) with
          | false => simp [hty] at hds
          | true =>
            simp only [hty, cond_true, Option.some.injEq, Prod.mk.injEq] at hds
            simp only [Bool.and_eq_true, Nat.beq_eq] at hty
            obtain ⟨rfl, rfl, rfl⟩ := hds
            obtain ⟨v', us, h1, h2, h3, h4, h5⟩ := hh.ob d _ hL
            simp only [Rep] at hv
            have e : v' = v := Option.some.inj (h1.symm.trans hv.1)
            subst e
            refine ⟨us, ?_, h3, by rw [hL]; simp, h5⟩
            rw [hst, ← hty.1, ← hty.2]
            exact h2
        · simp only [Option.some.injEq, Prod.mk.injEq] at hds
          obtain ⟨rfl, rfl, rfl⟩ := hds
          simp only [Rep] at hv
          subst hv
          exact ⟨[], World.ownsRow_nil w _ _ _, by simp [RepL], rfl⟩
      obtain ⟨us, d1, d2, d3⟩ := hdst
      refine app_put (ob := .lit ⟨ty, st, n + m, cs ++ ds⟩) hS hd ht hi hz (by omega) (by omega) hby1 hby hr d1 d3 n2 (by rw [hst]; exact hnl) (n1.ones hle.2) hle' (fun τ w' v' hext hsv a2 hk => ⟨v', us ++ news, hsv, ?_, (d2.append n1).mono hext, hst0, hk⟩) h
      show World.ownsRow w' _ ty st v' (n + m) (us ++ news)
      rw [← hst]
      exact a2
  | some c =>
    simp only at h
    cases hc : Nat.beq c.size st with
    | false => simp [hc, Tree.sat] at h
    | true =>
      have hc' : c.size = st := by simpa using hc
      simp only [hc, cond_true] at h
      split at h
      case h_2 => simp [Tree.sat] at h
      rename_i xs did ys hds hsr
      rw [appOk_eq] at h
      cases hle : decide (((xs.length + ys.length : Nat) : Int) * bytes ≤ 140737488355328) with
      | false => rw [hle, cond_false] at h; exact h.elim
      | true =>
        rw [hle, cond_true] at h
        have hle' : (xs.length + ys.length) * bytes ≤ 140737488355328 := by
          have := of_decide_eq_true hle
          omega
        have hh := hS.h
        obtain ⟨news, n1, n2⟩ := src_rep hh hc' hsr hu
        -- what is appended to
        have hdst : ∃ us, w.ownsRow w0.heap.size ty i.size v xs.length us ∧ LR (RepD σ.mem c) xs us ∧ DidOk s.hp σ v did := by
          unfold dstRows at hds
          split at hds <;> try (simp at hds; done)
          · rename_i d
            split at hds <;> try (simp at hds; done)
            rename_i A hA
            cases hty : Nat.beq A.ty ty with
            | false => simp [hty] at hds
            | true =>
              have hty' : A.ty = ty := by simpa using hty
              simp only [hty, cond_true, Option.map_eq_some_iff, Prod.mk.injEq] at hds
              obtain ⟨xs', hx', rfl, rfl⟩ := hds
              obtain ⟨v', us, h1, h2, h3, h4, h5⟩ := hh.ob d _ hA
              simp only [Rep] at hv
              have e : v' = v := Option.some.inj (h1.symm.trans hv.1)
              subst e
              have hsz := castL_size hx'
              refine ⟨us, ?_, castL_rep hx' (Q := fun e zs => LR (RepD σ.mem e) zs us) h3, by rw [hA]; simp, h5⟩
              rw [castL_len hx', hst, ← hc', ← hsz, ← hty']
              exact h2
          · simp only [Option.some.injEq, Prod.mk.injEq] at hds
            obtain ⟨rfl, rfl⟩ := hds
            simp only [Rep] at hv
            subst hv
            exact ⟨[], World.ownsRow_nil w _ _ _, by simp [LR], rfl⟩
        obtain ⟨us, d1, d2, d3⟩ := hdst
        have hnl : news.length = ys.length * i.size := by rw [hst, ← hc']; exact LR.len (fun x vs => RepD.len c x vs) n1
        refine app_put (ob := .arr ⟨ty, c, xs ++ ys⟩) hS hd ht hi hz (by omega) (by omega) hby1 hby hr d1 d3 n2 hnl (LR.all (fun x vs => RepD.one c x vs) n1) hle' (fun τ w' v' hext hsv a2 hk => ⟨v', us ++ news, hsv, ?_, LR.mono (fun x vs => RepD.mono hext.2 c x vs) (d2.append n1), by rw [hc']; exact hst0, hk⟩) h
        show World.ownsRow w' _ ty c.size v' (xs ++ ys).length (us ++ news)
        rw [hc', ← hst, List.length_append]
        exact a2

theorem HRel.turnObj {B : Nat} {σ : Env} {hp : Heap} {nx : Nat} {w : World} (h : HRel B σ hp nx w) {id n : Nat} {o : Ob} (hid : hp id ≠ none) (hn : σ id = some n) (obj : Obj) (hob : ObRel B σ (w.putObj n obj) id o) : HRel B σ (upd hp id (some o)) nx (w.putObj n obj) := by
  have hlt : id < nx := by
    rcases Nat.lt_or_ge id nx with x | x
    · exact x
    · exact absurd (h.fresh id x).2.2 hid
  refine h.putOb (Ext.refl σ) rfl (fun _ _ h => h) hlt (Nat.le_refl _) (fun _ _ => rfl) (fun _ _ => rfl) (by simp) ?_ ?_ ?_ hob ?_ h.rs
  · intro j k hj hpj hk
    exact World.putObj_heap_other fun e => hj (h.inj j id n hpj hid (e ▸ hk) hn)
  · intro k oo v hv
    refine World.putObj_heap_other fun e => ?_
    subst e
    rw [h.sep id k hid hn oo] at hv; cases hv
  · intro k hk
    refine World.putObj_heap_other fun e => ?_
    subst e
    exact hk (h.kp.sep id k hid hn)
  · intro k hk
    rw [hn] at hk; cases hk
    refine ⟨by simpa using h.bound id n hn, fun j hj hpj hjn => hj (h.inj j id n hpj hid hjn hn), h.sep id n hid hn, h.kp.sep id n hid hn⟩
theorem below_putObj {B : Nat} {w0 w : World} (h : Below B w0 w) {n : Nat} (hn : B ≤ n) (o : Obj) : Below B w0 (w.putObj n o) :=
  h.trans ⟨rfl, rfl, rfl, by simp, fun k hk => World.putObj_heap_other (by omega)⟩
/-- a number that stands for a value alone -/
theorem HRel.addSv {B : Nat} {σ : Env} {hp : Heap} {nx : Nat} {w : World} (h : HRel B σ hp nx w) (v : Option Value) : Ext σ (σ.add nx none v) ∧ HRel B (σ.add nx none v) hp (nx + 1) w := by
  obtain ⟨f1, f2, f3⟩ := h.fresh nx (Nat.le_refl _)
  have he : Ext σ (σ.add nx none v) := Env.add_ext f1 f2
  have hat : ∀ j, (σ.add nx none v) j = σ j := fun j => by
    by_cases hj : j = nx
    · subst hj; rw [f1]; exact upd_same _ _ _
    · exact upd_other _ _ hj
  refine ⟨he, ⟨fun id o hi => (h.ob id o hi).keep he (hat id) (fun _ _ => rfl), fun i j n hi hj h1 h2 => h.inj i j n hi hj ((hat i).symm.trans h1) ((hat j).symm.trans h2), fun i hi => ?_, fun i n hn => h.bound i n ((hat i).symm.trans hn), h.mem, fun i n hi hn => h.sep i n hi ((hat i).symm.trans hn), h.low, ⟨h.kp.sz, h.kp.ok, fun i n hi hn => h.kp.sep i n hi ((hat i).symm.trans hn), h.kp.mem⟩, Free.rsv (h.rs.not (Nat.le_refl _)).1 (h.rs.not (Nat.le_refl _)).2 h.rs (by omega) rfl rfl (fun j _ => hat j) (fun j hj => upd_other _ _ hj)⟩⟩
  obtain ⟨g1, g2, g3⟩ := h.fresh i (by omega)
  exact ⟨(hat i).trans g1, (upd_other _ _ (by omega)).trans g2, g3⟩
theorem heap_putObj {w : World} {b : Nat} {o : Obj} (o' : Obj) (h : w.heap[b]? = some o) : (w.putObj b o').heap[b]? = some o' := by
  show (w.heap.setIfInBounds b o')[b]? = _
  rw [Array.getElem?_setIfInBounds]
  simp [heap_lt h]
theorem win_val {B : Nat} {σ : Env} {hp : Heap} {nx : Nat} {w : World} {id st : Nat} {l : Int} {h' : Option Int} {A : Arr} {r : Result Next} (hh : HRel B σ hp nx w) (hA : hp id = some (.arr A))
    (hr : 0 ≤ l ∧ l ≤ h'.getD A.xs.length ∧ h'.getD A.xs.length ≤ A.xs.length) (he : AOk P σ w r (.win id st l h')) :
    ∃ v, r = .ok (.value v) w ∧ Rep σ (.win id l.toNat st ((h'.getD A.xs.length).toNat - l.toNat)) v := by
  simp only [AOk] at he
  obtain ⟨v, us, h1, h2, h3, h4, h5⟩ := hh.ob id _ hA
  obtain ⟨he1, he2⟩ := he v h1
  rcases h2.2 with ⟨rfl, k⟩ | ⟨g, cap, cur, rfl, k2, k3, k4, k5, k6, k7⟩
  · rw [k] at hr ⊢
    have h0 : l = 0 := by omega
    have h00 : h'.getD 0 = 0 := by simpa using (show h'.getD ((0 : Nat) : Int) = 0 by omega)
    refine ⟨_, he1 rfl h0 h00, ?_⟩
    simp only [Rep]
    subst h0
    refine ⟨none, 0, 0, none, 0, h1, ?_, ?_, fun _ => rfl, fun g hg => by cases hg⟩
    · have : h'.getD ((0 : Nat) : Int) = 0 := by simpa using h00
      rw [this]; rfl
    · have : h'.getD ((0 : Nat) : Int) = 0 := by simpa using h00
      rw [this]; simp
  · refine ⟨_, he2 g _ cap rfl hr.1 hr.2.1 (by omega), ?_⟩
    simp only [Rep]
    refine ⟨some ⟨g, 0, none⟩, A.xs.length, cap, _, _, h1, rfl, by omega, ?_, ?_⟩
    · split
      · intro hc; cases hc
      · intro hc; cases hc
    · intro g' hg hn
      cases hg
      rw [if_neg (by omega), Addr.add_lit, Nat.zero_add]
theorem trunc_sound {rd : Bool} {w0 : World} {σ : Env} {s : St} {a : Go.Act} {w : World} {o : Oper} {K : XE → St → Tree α} {r : Result Next} {id st : Nat} {n : Int}
    (hS : Sat rd w0 σ s a w) (hd : o.dst.getD 0 < s.n) (he : AOk P σ w r (.trunc id st n)) (h : (evEff cT o.dst s K (.trunc id st n)).sat R) :
    ∃ v τ s', r = .ok (.value v) w ∧ Ext σ τ ∧ Sat rd w0 τ s' (a.put o.dst v) w ∧ (K .normal s').sat R := by
  simp only [AOk] at he
  obtain ⟨v, hsv, he1, he2⟩ := he
  simp only [evEff] at h
  split at h <;> try (simp [Tree.sat] at h; done)
  rename_i A hA
  cases hb : (Nat.beq A.c.size st && decide (0 ≤ n ∧ n ≤ A.xs.length)) with
  | false => rw [hb, cond_false] at h; simp [Tree.sat] at h
  | true =>
    rw [hb, cond_true] at h
    rw [Bool.and_eq_true, decide_eq_true_eq] at hb
    obtain ⟨_, hn0, hn1⟩ := hb
    have hh := hS.h
    obtain ⟨v', us, h1, h2, h3, h4, h5⟩ := hh.ob id _ hA
    rw [hsv] at h1; cases h1
    obtain ⟨f1, f2, f3⟩ := hh.fresh s.nx (Nat.le_refl _)
    -- the slice that is cut
    have hv' : ∃ v', r = .ok (.value v') w ∧ (∃ aa n cap, v' = .slice aa n cap) ∧ v'.ownBlock = v.ownBlock ∧ w.ownsRow w0.heap.size A.ty A.c.size v' n.toNat (us.take (n.toNat * A.c.size)) := by
      have hlen := LR.len (fun x vs => RepD.len A.c x vs) h3
      have hle : n.toNat * A.c.size ≤ A.xs.length * A.c.size := Nat.mul_le_mul_right _ (by omega)
      rcases h2.2 with ⟨rfl, k⟩ | ⟨g, cap, cur, rfl, k2, k3, k4, k5, k6, k7⟩
      · have : n = 0 := by omega
        subst this
        exact ⟨_, he1 rfl rfl, ⟨_, _, _, rfl⟩, rfl, by simp, .inl ⟨rfl, rfl⟩⟩
      · refine ⟨_, he2 g _ cap rfl hn0 (by omega), ⟨_, _, _, rfl⟩, rfl, by simp; omega, .inr ⟨g, cap, cur, rfl, k2, k3, by omega, k5, k6, ?_⟩⟩
        rw [← k7, List.take_take, Nat.min_eq_left hle]
    obtain ⟨v', hr, hsl, hob, how⟩ := hv'
    have hext : Ext σ (σ.add s.nx v'.ownBlock (some v')) := Env.add_ext f1 f2
    have hsub : ∀ j o, upd s.hp id none j = some o → s.hp j = some o := less_none s.hp id
    have hH : HRel w0.heap.size (σ.add s.nx v'.ownBlock (some v')) (upd (upd s.hp id none) s.nx (some (.arr ⟨A.ty, A.c, A.xs.take n.toNat⟩))) (s.nx + 1) w := by
      refine hh.putOb hext rfl hsub (by omega) (by omega) (fun j hj => upd_other _ _ hj) (fun j hj => upd_other _ _ hj) (Nat.le_refl _) (fun _ _ _ _ _ => rfl) (fun _ _ _ _ => rfl) (fun _ _ => rfl) ?_ ?_ (Free.rsv (hh.rs.not (Nat.le_refl _)).1 (hh.rs.not (Nat.le_refl _)).2 hh.rs (by omega) rfl rfl (fun j hj => upd_other _ _ hj) (fun j hj => upd_other _ _ hj))
      · refine ⟨v', _, upd_same _ _ _, ?_, LR.mono (fun x vs => RepD.mono hext.2 A.c x vs) (LR.take (fun x vs => RepD.len A.c x vs) n.toNat h3 (by omega)), h4, fun m => ?_⟩
        · show World.ownsRow w _ A.ty A.c.size v' (A.xs.take n.toNat).length _
          rw [List.length_take, Nat.min_eq_left (by omega)]
          exact how
        · have : (σ.add s.nx v'.ownBlock (some v')) s.nx = v'.ownBlock := upd_same _ _ _
          rw [this]
      · intro m hm
        have hm' : v'.ownBlock = some m := by
          have : (σ.add s.nx v'.ownBlock (some v')) s.nx = v'.ownBlock := upd_same _ _ _
          rw [this] at hm; exact hm
        have hid : σ id = some m := (h5 m).1 (by rw [← hob]; exact hm')
        refine ⟨hh.bound id m hid, fun j hj hpj hjm => ?_, fun oo => hh.sep id m (by rw [hA]; simp) hid oo, hh.kp.sep id m (by rw [hA]; simp) hid⟩
        have hjd : j ≠ id := fun e' => by subst e'; rw [upd_same] at hpj; exact hpj rfl
        rw [upd_other _ _ hjd] at hpj
        exact hjd (hh.inj j id m hpj (by rw [hA]; simp) hjm hid)
    have hS' := hS.mono hext hH hS.bl
    refine ⟨v', _, _, hr, hext, hS'.put (o := o.dst) hd (x := .own s.nx) (v := v') ?_, h⟩
    simp only [Rep]
    exact ⟨upd_same _ _ _, hsl⟩

theorem Sat.drew {rd : Bool} {w0 : World} {σ : Env} {s : St} {a : Go.Act} {w : World} (hS : Sat rd w0 σ s a w) : Sat rd w0 σ s a w.drew :=
  ⟨⟨hS.h.ob, hS.h.inj, hS.h.fresh, hS.h.bound, hS.h.mem, hS.h.sep, hS.h.low, ⟨hS.h.kp.sz, hS.h.kp.ok, hS.h.kp.sep, hS.h.kp.mem⟩, hS.h.rs⟩, hS.tm, hS.n, hS.df, hS.bl.drew, hS.rd⟩
/-- cells that stay, with those of some lists of the call's own -/
noncomputable def frozen (σ : Env) (hp : Heap) (ids : List Nat) (w : World) (b o : Nat) : Option Value :=
  if ∃ id ∈ ids, hp id ≠ none ∧ σ id = some b then w.cell? ⟨b, o, none⟩ else σ.mem b o
theorem frozen_ok {B : Nat} {σ : Env} {hp : Heap} {nx : Nat} {w : World} (h : HRel B σ hp nx w) (ids : List Nat) : MemOk (frozen σ hp ids w) w := by
  intro b o v hv
  unfold frozen at hv
  split at hv
  · exact hv
  · exact h.mem b o v hv
theorem frozen_ge {B : Nat} {σ : Env} {hp : Heap} {nx : Nat} {w : World} (h : HRel B σ hp nx w) (ids : List Nat) : ∀ b o v, σ.mem b o = some v → frozen σ hp ids w b o = some v := by
  intro b o v hv
  unfold frozen
  split
  · exact h.mem b o v hv
  · exact hv
theorem drop1_sub : ∀ (ids : List Nat) (hp : Heap) (j : Nat) (o : Ob), drop1 hp ids j = some o → hp j = some o ∧ j ∉ ids
  | [], _, _, _, h => ⟨h, by simp⟩
  | id :: ids, hp, j, o, h => by
    obtain ⟨h1, h2⟩ := drop1_sub ids (upd hp id none) j o h
    by_cases hj : j = id
    · subst hj; rw [upd_same] at h1; cases h1
    · rw [upd_other _ _ hj] at h1
      exact ⟨h1, by simp [hj, h2]⟩
theorem fz_ext {B : Nat} {σ : Env} {hp : Heap} {nx : Nat} {w : World} (h : HRel B σ hp nx w) (ids : List Nat) : Ext σ { σ with mem := frozen σ hp ids w } := ⟨fun _ _ h => h, frozen_ge h ids, fun _ _ h => h, rfl, rfl, rfl, rfl, rfl⟩
theorem fz1_rep {B : Nat} {σ : Env} {hp : Heap} {nx : Nat} {w : World} (h : HRel B σ hp nx w) (ids : List Nat) {x : AV} {v : Value} (hx : Rep σ x v) : Rep { σ with mem := frozen σ hp ids w } (fz1 hp ids x) v := by
  have hext := fz_ext h ids
  cases x with
  | own id =>
    simp only [fz1]
    split
    · rename_i A hA
      cases hi : ids.any (Nat.beq id) with
      | false => exact hx.mono hext
      | true =>
        rw [cond_true]
        obtain ⟨j, hj, hji⟩ := List.any_eq_true.1 hi
        have hji : id = j := Nat.eq_of_beq_eq_true hji
        subst hji
        obtain ⟨v', us, h1, h2, h3, h4, h5⟩ := h.ob id _ hA
        simp only [Rep] at hx ⊢
        have e : v' = v := Option.some.inj (h1.symm.trans hx.1)
        subst e
        refine slD_mk ?_
        rcases h2.2 with ⟨rfl, k⟩ | ⟨g, cap, cur, rfl, k2, k3, k4, k5, k6, k7⟩
        · exact .inl ⟨rfl, List.eq_nil_of_length_eq_zero k⟩
        · simp only [maxLen] at k5
          refine .inr ⟨g, 0, none, cap, us, rfl, k4, by simp only [maxK]; omega, ⟨.inr rfl, fun j u hj' => ?_⟩, LR.mono (fun x vs => RepD.mono (frozen_ge h ids) _ x vs) h3⟩
          show frozen σ hp ids w g (0 + j) = some u
          unfold frozen
          rw [if_pos ⟨id, hj, by rw [hA]; simp, (h5 g).1 rfl⟩]
          have := h2.cells (g := g) rfl j u hj'
          rwa [Addr.add_lit] at this
    · exact hx.mono hext
  | _ => exact hx.mono hext
theorem fzs_rep {B : Nat} {σ : Env} {hp : Heap} {nx : Nat} {w : World} (h : HRel B σ hp nx w) (ids : List Nat) : ∀ {xs : List AV} {us : List Value}, RepL σ xs us → RepL { σ with mem := frozen σ hp ids w } (xs.map (fz1 hp ids)) us
  | [], _, hu => by simpa only [List.map_nil, RepL] using hu
  | x :: xs, us, hu => by
    simp only [List.map_cons, RepL] at hu ⊢
    obtain ⟨v, us', rfl, k1, k2⟩ := hu
    exact ⟨v, us', rfl, fz1_rep h ids k1, fzs_rep h ids k2⟩
theorem fzA_rep {B : Nat} {σ : Env} {hp : Heap} {nx : Nat} {w : World} (h : HRel B σ hp nx w) (ids : List Nat) {x : AV} {v : Value} (hx : Rep σ x v) : Rep { σ with mem := frozen σ hp ids w } (fzA hp ids x) v := by
  cases x with
  | agg cs =>
    simp only [fzA, Rep] at hx ⊢
    obtain ⟨vs, k1, k2⟩ := hx
    exact ⟨vs, fzs_rep h ids k1, k2⟩
  | _ => exact fz1_rep h ids hx
theorem fzAs_rep {B : Nat} {σ : Env} {hp : Heap} {nx : Nat} {w : World} (h : HRel B σ hp nx w) (ids : List Nat) : ∀ {xs : List AV} {us : List Value}, RepL σ xs us → RepL { σ with mem := frozen σ hp ids w } (xs.map (fzA hp ids)) us
  | [], _, hu => by simpa only [List.map_nil, RepL] using hu
  | x :: xs, us, hu => by
    simp only [List.map_cons, RepL] at hu ⊢
    obtain ⟨v, us', rfl, k1, k2⟩ := hu
    exact ⟨v, us', rfl, fzA_rep h ids k1, fzAs_rep h ids k2⟩
theorem fzH_sub {hp : Heap} {ids : List Nat} {j : Nat} {o : Ob} (h : fzH hp ids j = some o) : ∃ p, hp j = some p ∧ j ∉ ids ∧ o = fzOb hp ids p := by
  unfold fzH at h
  cases hc : drop1 hp ids j with
  | none => rw [hc] at h; cases h
  | some p =>
    rw [hc] at h
    obtain ⟨k1, k2⟩ := drop1_sub _ _ _ _ hc
    exact ⟨p, k1, k2, (Option.some.inj h).symm⟩
theorem HRel.fz {B : Nat} {σ : Env} {hp : Heap} {nx : Nat} {w : World} (hh : HRel B σ hp nx w) (ids : List Nat) : HRel B { σ with mem := frozen σ hp ids w } (fzH hp ids) nx w := by
  have he := fz_ext hh ids
  have hlive : ∀ j, fzH hp ids j ≠ none → hp j ≠ none ∧ j ∉ ids := by
    intro j hj
    cases hc : fzH hp ids j with
    | none => exact absurd hc hj
    | some o => obtain ⟨p, k1, k2, _⟩ := fzH_sub hc; exact ⟨by rw [k1]; simp, k2⟩
  refine ⟨fun j o hj => ?_, fun i j n hi hj => hh.inj i j n (hlive i hi).1 (hlive j hj).1, fun i hi => ?_, hh.bound, frozen_ok hh ids, fun i n hi hn o => ?_, fun b o v hv hlt => ?_, ⟨hh.kp.sz, hh.kp.ok, fun i n hi hn => hh.kp.sep i n (hlive i hi).1 hn, fun n o v hv => ?_⟩, hh.rs.ext (Nat.le_refl _) rfl rfl (fun _ _ h => h) (fun _ _ h => h)⟩
  · obtain ⟨p, k1, k2, rfl⟩ := fzH_sub hj
    have k := hh.ob j p k1
    cases p with
    | blk b =>
      obtain ⟨n, vs, h1, h2, h3, h4⟩ := k
      exact ⟨n, vs, h1, h2, fzs_rep hh ids h3, h4⟩
    | _ => exact k.keep he rfl (fun _ _ => rfl)
  · obtain ⟨f1, f2, f3⟩ := hh.fresh i hi
    refine ⟨f1, f2, ?_⟩
    cases hc : fzH hp ids i with
    | none => rfl
    | some o => obtain ⟨p, k1, _⟩ := fzH_sub hc; rw [k1] at f3; cases f3
  · have hl := hlive i hi
    show frozen σ hp ids w n o = none
    unfold frozen
    split
    · rename_i hex
      obtain ⟨id, hid, hne, hat⟩ := hex
      have := hh.inj i id n hl.1 hne hn hat
      subst this
      exact absurd hid hl.2
    · exact hh.sep i n hl.1 hn o
  · have hv : frozen σ hp ids w b o = some v := hv
    unfold frozen at hv
    split at hv
    · rename_i hex
      obtain ⟨id, hid, hne, hat⟩ := hex
      have := hh.ge hne hat
      omega
    · exact hh.low b o v hv hlt
  · have hv : frozen σ hp ids w n o = some v := hv
    unfold frozen at hv
    split at hv
    · rename_i hex
      obtain ⟨id, hid, hne, hat⟩ := hex
      exact hh.kp.sep id n hne hat
    · exact hh.kp.mem n o v hv
theorem Sat.fz {rd : Bool} {w0 : World} {σ : Env} {s : St} {a : Go.Act} {w : World} (h : Sat rd w0 σ s a w) (ids : List Nat) : Sat rd w0 { σ with mem := frozen σ s.hp ids w } { s with tm := fun t => fzA s.hp ids (s.tm t), hp := fzH s.hp ids } a w :=
  ⟨h.h.fz ids, fun t => fzA_rep h.h ids (h.tm t), h.n, h.df.mono (fz_ext h.h ids), h.bl, h.rd⟩
theorem evEff_sound (hc : CTok P cT R) {rd : Bool} {w0 : World} {σ : Env} {s : St} {a : Go.Act} {w : World} {o : Oper} {K : XE → St → Tree α} {next : Go.Act → World → Prop} {Q : Exit → Go.Act → World → Prop} {r : Result Next}
    (hS : Sat rd w0 σ s a w) (hd : o.dst.getD 0 < s.n) (hP : ∀ τ s' x ch w', Ext σ τ → Sat rd w0 τ s' a w' → ExR τ (.panic x) (.panic ch) → (K (.panic x) s').sat R → Q (.panic ch) a w') : ∀ (e : Eff), AOk P σ w r e → (evEff cT o.dst s K e).sat R →
    (∀ τ s' a' w', Ext σ τ → Sat rd w0 τ s' a' w' → (K .normal s').sat R → next a' w') → Oper.uponX P rd o a next Q r
  | .val x, he, h, hK => by
    simp only [AOk] at he
    obtain ⟨v, rfl, hv⟩ := he
    exact hK σ _ _ _ (Ext.refl _) (hS.put hd hv) h
  | .load id row st col n agg, he, h, hK => by
    simp only [AOk] at he
    obtain ⟨hn, he⟩ := he
    simp only [evEff] at h
    split at h <;> try (simp [Tree.sat] at h; done)
    · rename_i b hb
      obtain ⟨m, vs, h1, h2, h3, h4⟩ := hS.h.ob id _ hb
      cases hl : Nat.ble (row * st + col + n) (lenA b.cs) with
      | false => simp [hl, Tree.sat] at h
      | true =>
        simp only [hl, cond_true, takeA_eq, dropA_eq, nth_eq] at h
        simp only [Nat.ble_eq, lenA_eq] at hl
        rw [he m b.ty vs h1 h2 (by rw [← h3.length]; exact hl)]
        cases agg with
        | true =>
          simp only [cond_true] at h
          refine hK σ _ _ _ (Ext.refl _) (hS.put hd ?_) h
          simp only [if_true, Rep]
          exact ⟨_, (h3.drop _).take _, rfl⟩
        | false =>
          simp only [cond_false] at h
          have hn1 := hn rfl
          subst hn1
          have hlt : row * st + col < b.cs.length := by omega
          rw [List.getElem?_eq_getElem hlt] at h
          obtain ⟨v, hv, hr⟩ := h3.get (List.getElem?_eq_getElem hlt)
          refine hK σ _ _ _ (Ext.refl _) (hS.put hd ?_) h
          simp only [Bool.false_eq_true, if_false, List.getD, hv, Option.getD_some]
          exact hr
    · rename_i A hA
      obtain ⟨v, us, h1, h2, h3, h4, h5⟩ := hS.h.ob id _ hA
      cases hl : (Nat.beq A.c.size st && Nat.ble (col + n) st) with
      | false => simp [hl, Tree.sat] at h
      | true =>
        simp only [hl, cond_true] at h
        simp only [Bool.and_eq_true, Nat.beq_eq, Nat.ble_eq] at hl
        obtain ⟨hl1, hl2⟩ := hl
        subst hl1
        cases hr : decide (row < A.xs.length) with
        | false => simp [hr, Tree.sat] at h
        | true =>
          have hr' := of_decide_eq_true hr
          simp only [hr, cond_true, takeA_eq, dropA_eq, nth_eq] at h
          rcases h2.2 with ⟨_, k⟩ | ⟨g, cap, cur, rfl, k2, k3, k4, k5, k6, k7⟩
          · omega
          have hg := (h5 g).1 rfl
          have hul := LR.len (fun x vs => RepD.len A.c x vs) h3
          have hrow : (row + 1) * A.c.size ≤ A.xs.length * A.c.size := Nat.mul_le_mul_right _ hr'
          rw [Nat.add_mul, Nat.one_mul] at hrow
          have hcl : cur.toList.length = cap * A.c.size := by simpa using k6
          have hxc : A.xs.length * A.c.size ≤ cap * A.c.size := Nat.mul_le_mul_right _ k4
          have hrun := he g A.ty cur.toList hg (by simpa using k3) (by omega)
          have hel := LR.get (fun x vs => RepD.len A.c x vs) row (dflt A.c) h3 hr'
          have hcells : (us.drop (row * A.c.size)).take A.c.size = (cur.toList.drop (row * A.c.size)).take A.c.size := by
            rw [← k7, List.drop_take, List.take_take]
            congr 1; omega
          rw [hcells] at hel
          have hrep := enc_rep (σ := σ) _ _ _ hel
          have hdrop : ((cur.toList.drop (row * A.c.size)).take A.c.size).drop col = (cur.toList.drop (row * A.c.size + col)).take (A.c.size - col) := by
            rw [List.drop_take, List.drop_drop]
          rw [hrun]
          cases agg with
          | true =>
            simp only [cond_true] at h
            refine hK σ _ _ _ (Ext.refl _) (hS.put hd ?_) h
            simp only [if_true, Rep]
            refine ⟨_, (hrep.drop col).take n, ?_⟩
            rw [hdrop, List.take_take, Nat.min_eq_left (by omega)]
          | false =>
            simp only [cond_false] at h
            have hn1 := hn rfl
            subst hn1
            have hlt : col < (enc A.c (getA A.xs row (dflt A.c))).length := by
              rw [hrep.length]; simp only [List.length_take, List.length_drop]; omega
            rw [List.getElem?_eq_getElem hlt] at h
            obtain ⟨v, hv, hr2⟩ := hrep.get (List.getElem?_eq_getElem hlt)
            refine hK σ _ _ _ (Ext.refl _) (hS.put hd ?_) h
            have hv' : cur.toList[row * A.c.size + col]? = some v := by
              rw [List.getElem?_take] at hv
              split at hv
              · rwa [List.getElem?_drop] at hv
              · cases hv
            simp only [Bool.false_eq_true, if_false, List.getD, hv', Option.getD_some]
            exact hr2
    · rename_i L hL
      obtain ⟨v, us, h1, h2, h3, h4, h5⟩ := hS.h.ob id _ hL
      cases hl : (Nat.beq L.st st && Nat.ble (row + 1) L.n && Nat.ble (row * st + col + n) (lenA L.cs)) with
      | false => simp [hl, Tree.sat] at h
      | true =>
        simp only [hl, cond_true, takeA_eq, dropA_eq, nth_eq] at h
        simp only [Bool.and_eq_true, Nat.beq_eq, Nat.ble_eq, lenA_eq] at hl
        obtain ⟨⟨hl1, hl2⟩, hl3⟩ := hl
        subst hl1
        rcases h2.2 with ⟨_, k⟩ | ⟨g, cap, cur, rfl, k2, k3, k4, k5, k6, k7⟩
        · omega
        have hg := (h5 g).1 rfl
        have hlen := h3.length
        have hul : us.length = L.n * L.st := h2.1
        have hcl : cur.toList.length = cap * L.st := by simpa using k6
        have hxc : L.n * L.st ≤ cap * L.st := Nat.mul_le_mul_right _ k4
        have hrun := he g L.ty cur.toList hg (by simpa using k3) (by omega)
        have hcells : (us.drop (row * L.st + col)).take n = (cur.toList.drop (row * L.st + col)).take n := by
          rw [← k7, List.drop_take, List.take_take]
          congr 1; omega
        rw [hrun]
        cases agg with
        | true =>
          simp only [cond_true] at h
          refine hK σ _ _ _ (Ext.refl _) (hS.put hd ?_) h
          simp only [if_true, Rep]
          refine ⟨_, (h3.drop (row * L.st + col)).take n, ?_⟩
          rw [hcells]
        | false =>
          simp only [cond_false] at h
          have hn1 := hn rfl
          subst hn1
          have hlt : row * L.st + col < L.cs.length := by omega
          rw [List.getElem?_eq_getElem hlt] at h
          obtain ⟨v, hv, hr2⟩ := h3.get (List.getElem?_eq_getElem hlt)
          refine hK σ _ _ _ (Ext.refl _) (hS.put hd ?_) h
          have hv' : cur.toList[row * L.st + col]? = some v := by
            rw [← k7, List.getElem?_take] at hv
            split at hv
            · exact hv
            · cases hv
          simp only [Bool.false_eq_true, if_false, List.getD, hv', Option.getD_some]
          exact hr2
  | .store id row st col xs, he, h, hK => by
    simp only [AOk] at he
    obtain ⟨us, hu, he⟩ := he
    simp only [evEff] at h
    split at h <;> try (simp [Tree.sat] at h; done)
    · rename_i b hb
      obtain ⟨m, vs, h1, h2, h3, h4⟩ := hS.h.ob id _ hb
      cases hl : Nat.ble (row * st + col + lenA xs) (lenA b.cs) with
      | false => simp [hl, Tree.sat] at h
      | true =>
        simp only [hl, cond_true] at h
        simp only [Nat.ble_eq, lenA_eq] at hl
        rw [he m b.ty vs h1 h2 (by rw [← h3.length, ← hu.length]; exact hl)]
        have hob : ObRel w0.heap.size σ (w.setRow m (setsA vs (row * st + col) us).toArray) id (.blk ⟨b.ty, setsA b.cs (row * st + col) xs⟩) :=
          ⟨m, _, h1, setRow_heap w m _ _ _ _ h2, setsA_rep _ _ (row * st + col) _ _ h3 hu, h4⟩
        have hh := hS.h.turn (by rw [hb]; simp) h1 _ hob
        have hS' : Sat rd w0 σ { s with hp := upd s.hp id (some (.blk ⟨b.ty, setsA b.cs (row * st + col) xs⟩)) } a (w.setRow m (setsA vs (row * st + col) us).toArray) :=
          hS.mono (Ext.refl _) hh (below_setRow hS.bl h4 _)
        exact hK σ _ _ _ (Ext.refl _) (hS'.put hd (by simp only [Rep])) h
    · rename_i A hA
      obtain ⟨v, vs, h1, h2, h3, h4, h5⟩ := hS.h.ob id _ hA
      cases hl : (Nat.beq A.c.size st && Nat.ble (col + lenA xs) st) with
      | false => simp [hl, Tree.sat] at h
      | true =>
        simp only [hl, cond_true] at h
        simp only [Bool.and_eq_true, Nat.beq_eq, Nat.ble_eq, lenA_eq] at hl
        obtain ⟨hl1, hl2⟩ := hl
        subst hl1
        cases hr : decide (row < A.xs.length) with
        | false => simp [hr, Tree.sat] at h
        | true =>
          have hr' := of_decide_eq_true hr
          simp only [hr, cond_true] at h
          split at h
          case h_2 => simp [Tree.sat] at h
          rename_i x hx
          rcases h2.2 with ⟨_, k⟩ | ⟨g, cap, cur, rfl, k2, k3, k4, k5, k6, k7⟩
          · omega
          have hg := (h5 g).1 rfl
          have hul := LR.len (fun x vs => RepD.len A.c x vs) h3
          have hrow : (row + 1) * A.c.size ≤ A.xs.length * A.c.size := Nat.mul_le_mul_right _ hr'
          rw [Nat.add_mul, Nat.one_mul] at hrow
          have hcl : cur.toList.length = cap * A.c.size := by simpa using k6
          have hxc : A.xs.length * A.c.size ≤ cap * A.c.size := Nat.mul_le_mul_right _ k4
          have hxl := hu.length
          have hrun := he g A.ty cur.toList hg (by simpa using k3) (by omega)
          have hel := LR.get (fun x vs => RepD.len A.c x vs) row (dflt A.c) h3 hr'
          have hrep := enc_rep (σ := σ) _ _ _ hel
          have hnew := dec_all hx (setsA_rep xs us col _ _ hrep hu)
          have hset := LR.set (fun x vs => RepD.len A.c x vs) row x h3 hnew hr'
          -- the cells behind the store
          have hcells : (setsA cur.toList (row * A.c.size + col) us).take (A.xs.length * A.c.size) = setsA vs (row * A.c.size) (setsA ((vs.drop (row * A.c.size)).take A.c.size) col us) := by
            rw [setsA_take _ _ _ _ (by omega), k7]
            have hsplit : vs = vs.take (row * A.c.size) ++ ((vs.drop (row * A.c.size)).take A.c.size ++ vs.drop (row * A.c.size + A.c.size)) := by
              rw [← List.drop_drop, List.take_append_drop, List.take_append_drop]
            have hp1 : (vs.take (row * A.c.size)).length = row * A.c.size := by simp; omega
            have hp2 : ((vs.drop (row * A.c.size)).take A.c.size).length = A.c.size := by simp; omega
            generalize hA1 : vs.take (row * A.c.size) = p at hsplit hp1
            generalize hA2 : (vs.drop (row * A.c.size)).take A.c.size = q at hsplit hp2 ⊢
            generalize vs.drop (row * A.c.size + A.c.size) = t at hsplit
            rw [hsplit, show row * A.c.size + col = p.length + col by omega, setsA_past, show row * A.c.size = p.length + 0 by omega, setsA_past]
            congr 1
            rw [setsA_front _ q t (by rw [setsA_length]), setsA_in q t us col (by omega)]
          rw [hrun]
          have hob : ObRel w0.heap.size σ (w.setRow g (setsA cur.toList (row * A.c.size + col) us).toArray) id (.arr ⟨A.ty, A.c, setA A.xs row x⟩) := by
            refine ⟨_, _, h1, ?_, by rw [setA_eq]; exact hset, h4, h5⟩
            refine ⟨?_, .inr ⟨g, cap, _, ?_, k2, setRow_heap w g _ _ _ _ k3, by simpa [setA_eq] using k4, k5, by simp [setsA_length]; exact hcl, ?_⟩⟩
            · simp only [setA_eq, List.length_set, setsA_length]; exact h2.1
            · simp [setA_eq]
            · simp only [setA_eq, List.length_set]
              exact hcells
          have hh := hS.h.turn (by rw [hA]; simp) hg _ hob
          have hS' := hS.mono (Ext.refl _) hh (below_setRow hS.bl k2 _)
          exact hK σ _ _ _ (Ext.refl _) (hS'.put hd (by simp only [Rep])) h
    · rename_i L hL
      obtain ⟨v, vs, h1, h2, h3, h4, h5⟩ := hS.h.ob id _ hL
      cases hl : (Nat.beq L.st st && Nat.ble (row + 1) L.n && Nat.ble (row * st + col + lenA xs) (lenA L.cs)) with
      | false => simp [hl, Tree.sat] at h
      | true =>
        simp only [hl, cond_true] at h
        simp only [Bool.and_eq_true, Nat.beq_eq, Nat.ble_eq, lenA_eq] at hl
        obtain ⟨⟨hl1, hl2⟩, hl3⟩ := hl
        subst hl1
        rcases h2.2 with ⟨_, k⟩ | ⟨g, cap, cur, rfl, k2, k3, k4, k5, k6, k7⟩
        · omega
        have hg := (h5 g).1 rfl
        have hlen := h3.length
        have hul : vs.length = L.n * L.st := h2.1
        have hxl := hu.length
        have hcl : cur.toList.length = cap * L.st := by simpa using k6
        have hxc : L.n * L.st ≤ cap * L.st := Nat.mul_le_mul_right _ k4
        have hrun := he g L.ty cur.toList hg (by simpa using k3) (by omega)
        rw [hrun]
        have hob : ObRel w0.heap.size σ (w.setRow g (setsA cur.toList (row * L.st + col) us).toArray) id (.lit ⟨L.ty, L.st, L.n, setsA L.cs (row * L.st + col) xs⟩) := by
          refine ⟨_, _, h1, ?_, setsA_rep _ _ (row * L.st + col) _ _ h3 hu, h4, h5⟩
          refine ⟨?_, .inr ⟨g, cap, _, rfl, k2, setRow_heap w g _ _ _ _ k3, k4, k5, by simp [setsA_length]; exact hcl, ?_⟩⟩
          · simp only [setsA_length]; exact h2.1
          · rw [List.toList_toArray, setsA_take _ _ _ _ (by show _ ≤ L.n * L.st; omega), k7]
        have hh := hS.h.turn (by rw [hL]; simp) hg _ hob
        have hS' := hS.mono (Ext.refl _) hh (below_setRow hS.bl k2 _)
        exact hK σ _ _ _ (Ext.refl _) (hS'.put hd (by simp only [Rep])) h
  | .alloc b mk, he, h, hK => by
    simp only [AOk] at he
    obtain ⟨us, v, hu, rfl, hv⟩ := he
    simp only [evEff] at h
    obtain ⟨τ, e, hτ, _, hh⟩ := hS.h.new (obj := .cells us.toArray b.ty) (o := .blk b) (sv := none) (fun τ e _ h1 _ =>
      ⟨w.heap.size, us, h1, by show (w.heap.push _)[w.heap.size]? = _; simp, hu.mono e, hS.bl.size⟩)
    have hS' : Sat rd w0 τ { s with hp := upd s.hp s.nx (some (.blk b)), nx := s.nx + 1 } a _ := hS.mono e hh (hS.bl.alloc hS.bl.size _)
    exact hK τ _ _ _ e (hS'.put hd (hv τ s.nx e hτ)) h
  | .list ty c xs, he, h, hK => by
    simp only [AOk] at he
    obtain ⟨us, cap, rfl, h1, h2, h3, h4, h5⟩ := he
    simp only [evEff] at h
    obtain ⟨τ, e, hτ, hsv, hh⟩ := hS.h.new (obj := .cells us.toArray ty) (o := .arr ⟨ty, c, xs⟩) (sv := some (.slice (some ⟨w.heap.size, 0, none⟩) xs.length cap)) (fun τ e _ k1 k2 =>
      ⟨_, us.take (xs.length * c.size), k2, ⟨by simp only [List.length_take, h1]; exact Nat.min_eq_left (Nat.mul_le_mul_right _ h2), .inr ⟨w.heap.size, cap, us.toArray, rfl, hS.bl.size, by show (w.heap.push _)[w.heap.size]? = _; simp, h2, h3, by simpa using h1, by simp⟩⟩,
        LR.mono (fun x vs => RepD.mono e.2 c x vs) h5, h4, fun n => by simp only [Value.ownBlock]; rw [k1]⟩)
    have hS' := hS.mono e hh (hS.bl.alloc hS.bl.size _)
    exact hK τ _ _ _ e (hS'.put hd (x := .own s.nx) (by simp only [Rep]; exact ⟨hsv, _, _, _, rfl⟩)) h
  | .listz ty c xs, he, h, hK => by
    simp only [AOk] at he
    obtain ⟨us, cap, rfl, h1, h2, h3, h4, h5⟩ := he
    simp only [evEff] at h
    have hS1 := hS.drew
    obtain ⟨τ, e, hτ, hsv, hh⟩ := hS1.h.new (obj := .cells us.toArray ty) (o := .arr ⟨ty, c, xs⟩) (sv := some (.slice (some ⟨w.heap.size, 0, none⟩) xs.length cap)) (fun τ e _ k1 k2 =>
      ⟨_, us.take (xs.length * c.size), k2, ⟨by simp only [List.length_take, h1]; exact Nat.min_eq_left (Nat.mul_le_mul_right _ h2), .inr ⟨w.heap.size, cap, us.toArray, rfl, hS1.bl.size, by show (w.heap.push _)[w.heap.size]? = _; simp, h2, h3, by simpa using h1, by simp⟩⟩,
        LR.mono (fun x vs => RepD.mono e.2 c x vs) h5, h4, fun n => by simp only [Value.ownBlock]; rw [k1]; exact Iff.rfl⟩)
    have hS' := hS1.mono e hh (hS1.bl.alloc hS1.bl.size _)
    exact hK τ _ _ _ e (hS'.put hd (x := .own s.nx) (by simp only [Rep]; exact ⟨hsv, _, _, _, rfl⟩)) h
  | .app ty bytes st c dst src, he, h, hK => by
    simp only [evEff] at h
    obtain ⟨v, τ, s', w', rfl, h1, h2, h3⟩ := app_sound hS hd he h
    exact hK τ s' _ _ h1 h2 h3
  | .idx id st n, he, h, hK => by
    simp only [AOk] at he
    simp only [evEff] at h
    split at h <;> try (simp [Tree.sat] at h; done)
    · rename_i A hA
      obtain ⟨v, us, h1, h2, h3, h4, h5⟩ := hS.h.ob id _ hA
      cases hl : Nat.beq A.c.size st with
      | false => simp [hl, Tree.sat] at h
      | true =>
        have hl' : A.c.size = st := by simpa using hl
        subst hl'
        simp only [hl, cond_true] at h
        cases hr : decide (0 ≤ n ∧ n < A.xs.length) with
        | false => simp [hr, Tree.sat] at h
        | true =>
          have hr' := of_decide_eq_true hr
          simp only [hr, cond_true] at h
          rcases h2.2 with ⟨_, k⟩ | ⟨g, cap, cur, rfl, k2, k3⟩
          · omega
          have hg := (h5 g).1 rfl
          rw [he g _ cap h1 hr'.1 hr'.2]
          exact hK σ _ _ _ (Ext.refl _) (hS.put hd (by simp only [Rep]; exact ⟨g, hg, rfl⟩)) h
    · rename_i L hL
      obtain ⟨v, us, h1, h2, h3, h4, h5⟩ := hS.h.ob id _ hL
      cases hl : Nat.beq L.st st with
      | false => simp [hl, Tree.sat] at h
      | true =>
        have hl' : L.st = st := by simpa using hl
        subst hl'
        simp only [hl, cond_true] at h
        cases hr : decide (0 ≤ n ∧ n < L.n) with
        | false => simp [hr, Tree.sat] at h
        | true =>
          have hr' := of_decide_eq_true hr
          simp only [hr, cond_true] at h
          rcases h2.2 with ⟨_, k⟩ | ⟨g, cap, cur, rfl, k2, k3⟩
          · omega
          have hg := (h5 g).1 rfl
          rw [he g _ cap h1 hr'.1 hr'.2]
          exact hK σ _ _ _ (Ext.refl _) (hS.put hd (by simp only [Rep]; exact ⟨g, hg, rfl⟩)) h
  | .len id, he, h, hK => by
    simp only [AOk] at he
    simp only [evEff] at h
    split at h <;> try (simp [Tree.sat] at h; done)
    · rename_i A hA
      obtain ⟨v, us, h1, h2, h3, h4, h5⟩ := hS.h.ob id _ hA
      rcases h2.2 with ⟨rfl, k⟩ | ⟨g, cap, cur, rfl, k2, k3, k4, k5, _⟩
      · rw [he _ _ _ h1]
        rw [k] at h
        exact hK σ _ _ _ (Ext.refl _) (hS.put hd (rep_int ⟨by simp [minK], by simp [maxK]⟩)) h
      · rw [he _ _ _ h1]
        simp only [maxLen] at k5
        exact hK σ _ _ _ (Ext.refl _) (hS.put hd (rep_int ⟨by simp only [minK]; omega, by simp only [maxK]; omega⟩)) h
    · rename_i L hL
      obtain ⟨v, us, h1, h2, h3, h4, h5⟩ := hS.h.ob id _ hL
      rcases h2.2 with ⟨rfl, k⟩ | ⟨g, cap, cur, rfl, k2, k3, k4, k5, _⟩
      · rw [he _ _ _ h1]
        rw [k] at h
        exact hK σ _ _ _ (Ext.refl _) (hS.put hd (rep_int ⟨by simp [minK], by simp [maxK]⟩)) h
      · rw [he _ _ _ h1]
        simp only [maxLen] at k5
        exact hK σ _ _ _ (Ext.refl _) (hS.put hd (rep_int ⟨by simp only [minK]; omega, by simp only [maxK]; omega⟩)) h
  | .call f xs, he, h, hK => by
    simp only [AOk] at he
    obtain ⟨us, hu, rfl⟩ := he
    simp only [evEff] at h
    cases hfz : frzF f with
    | false =>
      rw [hfz, cond_false] at h
      obtain ⟨h1, h2⟩ := hc w0 σ s.hp s.nx w (.fn f) xs us _ hS.h hS.bl hu h
      rw [h1]
      refine h2.mono ?_
      rintro e w' ⟨y, τ, hp', nx', h3, h4, h5, h6, h7⟩
      have hS' : Sat rd w0 τ { s with hp := hp', nx := nx' } a w' := hS.mono h3 h4 h5
      cases e with
      | returned v => cases y with
        | ret x => exact hK τ _ _ _ h3 (hS'.put hd h6) h7
        | pan x => exact h6.elim
      | panicked ch => cases y with
        | ret x => exact h6.elim
        | pan x => exact hP τ _ x ch w' h3 hS' h6 h7
      | outgrown => cases y <;> exact h6.elim
    | true =>
      rw [hfz, cond_true] at h
      have hF := hS.fz (fzOf f s xs)
      have e0 := fz_ext hS.h (fzOf f s xs)
      obtain ⟨h1, h2⟩ := hc w0 _ _ _ w (.fn f) _ us _ hF.h hF.bl (fzAs_rep hS.h _ hu) h
      rw [h1]
      refine h2.mono ?_
      rintro e w' ⟨y, τ, hp', nx', h3, h4, h5, h6, h7⟩
      have hS' : Sat rd w0 τ { s with tm := fun t => fzA s.hp (fzOf f s xs) (s.tm t), hp := hp', nx := nx' } a w' := hF.mono h3 h4 h5
      have h3' := e0.trans h3
      cases e with
      | returned v => cases y with
        | ret x => exact hK τ _ _ _ h3' (hS'.put hd h6) h7
        | pan x => exact h6.elim
      | panicked ch => cases y with
        | ret x => exact h6.elim
        | pan x => exact hP τ _ x ch w' h3' hS' h6 h7
      | outgrown => cases y <;> exact h6.elim
  | .round id xs, he, h, hK => by
    simp only [AOk] at he
    obtain ⟨us, b, hu, hb, rfl⟩ := he
    simp only [evEff] at h
    obtain ⟨l, f, tmps, assign, body, h1, h2⟩ := hc w0 σ s.hp s.nx w (.yld id) xs us _ hS.h hS.bl hu h b hb
    rw [h1]
    refine h2.mono ?_
    rintro e w' ⟨y, τ, hp', nx', h3, h4, h5, h6, h7⟩
    have hS' : Sat rd w0 τ { s with hp := hp', nx := nx' } a w' := hS.mono h3 h4 h5
    cases e with
    | returned v => cases y with
      | ret x => exact hK τ _ _ _ h3 (hS'.put hd h6) h7
      | pan x => exact h6.elim
    | panicked ch => cases y with
      | ret x => exact h6.elim
      | pan x => exact hP τ _ x ch w' h3 hS' h6 h7
    | outgrown => cases y <;> exact h6.elim
  | .dfr d, he, h, hK => by
    simp only [AOk] at he
    obtain ⟨D, hD, rfl⟩ := he
    simp only [evEff] at h
    cases hr : s.rd with
    | true => simp [hr, Tree.sat] at h
    | false =>
      simp only [hr, cond_false] at h
      have hrd : rd = false := hS.rd.symm.trans hr
      refine ⟨hrd, ?_⟩
      have hS' : Sat rd w0 σ { s with df := d :: s.df } { a with defers := D :: a.defers } w := ⟨hS.h, hS.tm, hS.n, .cons hD hS.df, hS.bl, hS.rd⟩
      exact hK σ _ _ _ (Ext.refl _) (hS'.put (x := .val undef) (v := undef) hd (by simp only [Rep])) (by first | exact h | (rw [hr] at *; exact h))
  | .panic x, he, h, hK => by
    simp only [AOk] at he
    obtain ⟨v, hv, rfl⟩ := he
    simp only [evEff] at h
    exact hP σ s x _ w (Ext.refl _) hS ⟨v, hv, rfl⟩ h
  | .test c e, he, h, hK => by
    simp only [AOk] at he
    simp only [evEff] at h
    cases c with
    | false => simp [Tree.sat] at h
    | true => exact evEff_sound hc hS hd hP e (he rfl) (by simpa using h) hK
  | .alt c x y, he, h, hK => by
    simp only [AOk] at he
    simp only [evEff] at h
    cases c with
    | false => exact evEff_sound hc hS hd hP y (he.2 rfl) (by simpa using h) hK
    | true => exact evEff_sound hc hS hd hP x (he.1 rfl) (by simpa using h) hK
  | .mapNew kc vc, he, h, hK => by
    simp only [AOk] at he
    subst he
    simp only [evEff] at h
    obtain ⟨τ, e, hτ, _, hh⟩ := hS.h.new (obj := .map #[] 0) (o := .mp ⟨kc, vc, fun _ => none, []⟩) (sv := none) (fun τ e _ h1 _ =>
      ⟨w.heap.size, #[], 0, h1, by show (w.heap.push _)[w.heap.size]? = _; simp, MapRel.nil _ _ _ _, hS.bl.size⟩)
    have hS' : Sat rd w0 τ { s with hp := upd s.hp s.nx (some (.mp ⟨kc, vc, fun _ => none, []⟩)), nx := s.nx + 1 } a _ := hS.mono e hh (hS.bl.alloc hS.bl.size _)
    exact hK τ _ _ _ e (hS'.put (x := .mp s.nx) hd (by simp only [Rep]; exact ⟨_, hτ, rfl⟩)) h
  | .mapGet id kc vc z k ok, he, h, hK => by
    simp only [AOk] at he
    obtain ⟨b, t, kt, vt, key, zv, e1, e2, e3, e4, e5, e6, rfl⟩ := he
    simp only [evEff] at h
    split at h <;> try (simp [Tree.sat] at h; done)
    rename_i M ho
    split at h <;> try (simp [Tree.sat] at h; done)
    rename_i k' z' hk hz
    obtain ⟨kc', vc', get, ents⟩ := M
    obtain ⟨hc, rfl⟩ := castL_one hk
    obtain ⟨hv, rfl⟩ := castL_one hz
    simp only at hc hv
    subst hc; subst hv
    obtain ⟨n, es, clock, h1, h2, h3, h4⟩ := hS.h.ob id _ ho
    rw [e1] at h1; cases h1
    obtain ⟨v, v1, v2⟩ := lookup_data (P := P) h2 h3 e2 e3 e4 e5 e6 ok
    simp only [Sem.run_bind, v2, Result.andThen_ok, Sem.run_pure]
    cases ok with
    | true =>
      simp only [cond_true] at h
      refine hK σ _ _ _ (Ext.refl _) (hS.put (v := .tuple #[v, .bool (get k).isSome]) hd ?_) h
      simp only [Rep, RepL]
      exact ⟨_, ⟨_, _, rfl, v1.rep, _, _, rfl, rfl, rfl⟩, rfl⟩
    | false =>
      simp only [cond_false] at h
      exact hK σ _ _ _ (Ext.refl _) (hS.put (v := v) hd v1.rep) h
  | .mapSet id kc vc k x, he, h, hK => by
    simp only [AOk] at he
    obtain ⟨b, t, kt, vt, key, v, e1, e2, e3, e4, e5, rfl⟩ := he
    simp only [evEff] at h
    split at h <;> try (simp [Tree.sat] at h; done)
    rename_i M ho
    split at h <;> try (simp [Tree.sat] at h; done)
    rename_i k' z' hk hz
    obtain ⟨kc', vc', get, ents⟩ := M
    obtain ⟨hc, rfl⟩ := castL_one hk
    obtain ⟨hv, rfl⟩ := castL_one hz
    simp only at hc hv
    subst hc; subst hv
    obtain ⟨n, es, clock, h1, h2, h3, h4⟩ := hS.h.ob id _ ho
    rw [e1] at h1; cases h1
    obtain ⟨es', clock', v2, v3⟩ := mapSet_data (P := P) h2 h3 e2 e3 e4 e5
    simp only [Sem.run_bind, v2, Result.andThen_ok, Sem.run_pure]
    have hh := hS.h.turnObj (by rw [ho]; simp) e1 (.map es' clock') (o := .mp _) ⟨b, es', clock', e1, heap_putObj _ h2, v3, h4⟩
    exact hK σ _ _ _ (Ext.refl _) ((hS.mono (Ext.refl _) hh (below_putObj hS.bl h4 _)).put hd (by simp only [Rep])) h
  | .mapDel id kc k, he, h, hK => by
    simp only [AOk] at he
    obtain ⟨b, ts, ty, t, kt, vt, key, e1, e2, e3, e4, e5, rfl⟩ := he
    simp only [evEff] at h
    split at h <;> try (simp [Tree.sat] at h; done)
    rename_i M ho
    split at h <;> try (simp [Tree.sat] at h; done)
    rename_i k' hk
    obtain ⟨kc', vc', get, ents⟩ := M
    obtain ⟨hc, rfl⟩ := castL_one hk
    simp only at hc
    subst hc
    obtain ⟨n, es, clock, h1, h2, h3, h4⟩ := hS.h.ob id _ ho
    rw [e1] at h1; cases h1
    obtain ⟨es', clock', v2, v3⟩ := mapDel_data (P := P) (ty := ty) h2 h3 e2 e3 e4 e5
    simp only [Sem.run_bind, v2, Result.andThen_ok, Sem.run_pure]
    have hh := hS.h.turnObj (by rw [ho]; simp) e1 (.map es' clock') (o := .mp _) ⟨b, es', clock', e1, heap_putObj _ h2, v3, h4⟩
    exact hK σ _ _ _ (Ext.refl _) ((hS.mono (Ext.refl _) hh (below_putObj hS.bl h4 _)).put hd (by simp only [Rep])) h
  | .mapClr id, he, h, hK => by
    simp only [AOk] at he
    obtain ⟨b, ts, ty, t, kt, vt, e1, e2, e3, rfl⟩ := he
    simp only [evEff] at h
    split at h <;> try (simp [Tree.sat] at h; done)
    rename_i M ho
    obtain ⟨n, es, clock, h1, h2, h3, h4⟩ := hS.h.ob id _ ho
    rw [e1] at h1; cases h1
    obtain ⟨v2, v3⟩ := mapClr_data (P := P) (σ := σ) (M := M) (ty := ty) h2 e2 e3
    simp only [Sem.run_bind, v2, Result.andThen_ok, Sem.run_pure]
    have hh := hS.h.turnObj (by rw [ho]; simp) e1 (.map #[] clock) (o := .mp _) ⟨b, #[], clock, e1, heap_putObj _ h2, v3, h4⟩
    exact hK σ _ _ _ (Ext.refl _) ((hS.mono (Ext.refl _) hh (below_putObj hS.bl h4 _)).put hd (by simp only [Rep])) h
  | .mapEnt id kc vc z k, he, h, hK => by
    simp only [AOk] at he
    obtain ⟨b, t, kt, vt, key, zv, e1, e2, e3, e4, e5, e6, rfl⟩ := he
    simp only [evEff] at h
    split at h <;> try (simp [Tree.sat] at h; done)
    rename_i M ho
    split at h <;> try (simp [Tree.sat] at h; done)
    rename_i k' z' hk hz
    obtain ⟨kc', vc', get, ents⟩ := M
    obtain ⟨hc, rfl⟩ := castL_one hk
    obtain ⟨hv, rfl⟩ := castL_one hz
    simp only at hc hv
    subst hc; subst hv
    obtain ⟨n, es, clock, h1, h2, h3, h4⟩ := hS.h.ob id _ ho
    rw [e1] at h1; cases h1
    obtain ⟨es', clock', m, v, v1, v2, v3⟩ := mapEnt_data (P := P) h2 h3 e2 e3 e4 e5 e6
    simp only [Sem.run_bind, v2, Result.andThen_ok, Sem.run_pure]
    obtain ⟨he, hA⟩ := hS.h.addSv (some (.int .i64 (m : Int)))
    have hsv : (σ.add s.nx none (some (.int .i64 (m : Int)))).sv s.nx = some (.int .i64 (m : Int)) := upd_same _ _ _
    have hat : (σ.add s.nx none (some (.int .i64 (m : Int)))) id = some b := he.1 _ _ e1
    have hh := hA.turnObj (by rw [ho]; simp) hat (.map es' clock') (o := .mp _) ⟨b, es', clock', hat, heap_putObj _ h2, v3 s.nx _ (fun i v hi => he.3 i v hi) hsv, h4⟩
    refine hK _ _ _ _ he ((hS.mono he hh (below_putObj hS.bl h4 _)).put (v := .tuple #[v, .int .i64 (m : Int)]) hd ?_) h
    simp only [Rep, RepL]
    exact ⟨_, ⟨_, _, rfl, (v1.mono he.2).rep, _, _, rfl, ⟨hsv, _, rfl⟩, rfl⟩, rfl⟩
  | .entSet id st vc x, he, h, hK => by
    simp only [AOk] at he
    obtain ⟨b, t, m, v, e1, e2, e3, rfl⟩ := he
    simp only [evEff] at h
    split at h <;> try (simp [Tree.sat] at h; done)
    rename_i M ho
    split at h <;> try (simp [Tree.sat] at h; done)
    rename_i k' z' hk hz
    obtain ⟨kc', vc', get, ents⟩ := M
    obtain ⟨hv, rfl⟩ := castL_one hz
    simp only at hv
    subst hv
    obtain ⟨n, es, clock, h1, h2, h3, h4⟩ := hS.h.ob id _ ho
    rw [e1] at h1; cases h1
    cases hkc : keyC kc' with
    | false => rw [hkc, cond_false] at h; simp [Tree.sat] at h
    | true =>
      rw [hkc, cond_true] at h
      obtain ⟨es', v2, v3⟩ := entSet_data (P := P) (t := t) hkc h2 h3 hk e2 e3
      simp only [Sem.run_bind, v2, Result.andThen_ok, Sem.run_pure]
      have hh := hS.h.turnObj (by rw [ho]; simp) e1 (.map es' clock) (o := .mp _) ⟨b, es', clock, e1, heap_putObj _ h2, v3, h4⟩
      exact hK σ _ _ _ (Ext.refl _) ((hS.mono (Ext.refl _) hh (below_putObj hS.bl h4 _)).put hd (by simp only [Rep])) h
  | .iter t, he, h, hK => by
    simp only [AOk] at he
    subst he
    simp only [evEff] at h
    obtain ⟨τ, e, hτ, _, hh⟩ := hS.h.new (obj := .stringIter t 0) (o := .it t 0) (sv := none) (fun τ e _ h1 _ =>
      ⟨w.heap.size, h1, by show (w.heap.push _)[w.heap.size]? = _; simp, hS.bl.size⟩)
    have hS' : Sat rd w0 τ { s with hp := upd s.hp s.nx (some (.it t 0)), nx := s.nx + 1 } a _ := hS.mono e hh (hS.bl.alloc hS.bl.size _)
    exact hK τ _ _ _ e (hS'.put (x := .ptr s.nx 0 0 0) hd (by simp only [Rep]; exact ⟨_, hτ, by simp⟩)) h
  | .nxt id, he, h, hK => by
    simp only [AOk] at he
    obtain ⟨b, hb, he⟩ := he
    simp only [evEff] at h
    split at h <;> try (simp [Tree.sat] at h; done)
    rename_i t pos ho
    obtain ⟨n, h1, h2, h3⟩ := hS.h.ob id _ ho
    rw [hb] at h1; cases h1
    obtain ⟨he1, he2⟩ := he t pos h2
    cases hp : Nat.ble (pos + 1) t.size with
    | false =>
      rw [hp, cond_false] at h
      rw [he2 (fun k => by rw [Nat.ble_eq_true_of_le k] at hp; exact absurd hp (by decide))]
      exact hK σ _ _ _ (Ext.refl _) (hS.put (x := .tup [.bool false]) (v := .tuple #[.bool false]) hd (by simp only [Rep, RepL]; exact ⟨_, ⟨_, _, rfl, rfl, rfl⟩, rfl⟩)) h
    | true =>
      rw [hp, cond_true] at h
      rw [he1 (Nat.le_of_ble_eq_true hp)]
      cases hk : (inKB .i64 pos && inKB .i32 (Utf8.decode t pos).1) with
      | false => rw [hk, cond_false] at h; simp [Tree.sat] at h
      | true =>
        rw [hk, cond_true] at h
        rw [Bool.and_eq_true] at hk
        have hh := hS.h.turnObj (by rw [ho]; simp) hb (.stringIter t (pos + (Utf8.decode t pos).2)) (o := .it t (pos + (Utf8.decode t pos).2)) ⟨b, hb, by
          show (w.heap.setIfInBounds b _)[b]? = _
          rw [Array.getElem?_setIfInBounds]
          simp [heap_lt h2], h3⟩
        have hS' : Sat rd w0 σ { s with hp := upd s.hp id (some (.it t (pos + (Utf8.decode t pos).2))) } a (w.putObj b (.stringIter t (pos + (Utf8.decode t pos).2))) := hS.mono (Ext.refl _) hh (below_putObj hS.bl h3 _)
        refine hK σ _ _ _ (Ext.refl _) (hS'.put (x := .tup [.bool true, .int .i64 pos, .int .i32 (Utf8.decode t pos).1]) hd ?_) h
        simp only [Rep, RepL]
        exact ⟨_, ⟨_, _, rfl, rfl, _, _, rfl, ⟨rfl, inKB_spec.1 hk.1⟩, _, _, rfl, ⟨rfl, inKB_spec.1 hk.2⟩, rfl⟩, rfl⟩
  | .win id st l h', he, h, hK => by
    simp only [evEff] at h
    split at h <;> try (simp [Tree.sat] at h; done)
    rename_i A hA
    cases hl : Nat.beq A.c.size st with
    | false => simp [hl, Tree.sat] at h
    | true =>
      simp only [hl, cond_true] at h
      cases hr : decide (0 ≤ l ∧ l ≤ h'.getD A.xs.length ∧ h'.getD A.xs.length ≤ A.xs.length) with
      | false => rw [hr, cond_false] at h; simp [Tree.sat] at h
      | true =>
        rw [hr, cond_true] at h
        obtain ⟨v, hv1, hv2⟩ := win_val hS.h hA (of_decide_eq_true hr) he
        rw [hv1]
        exact hK σ _ _ _ (Ext.refl _) (hS.put hd hv2) h
  | .copy id p n p' n', he, h, hK => by
    simp only [AOk] at he
    obtain ⟨ad, ap, ap', len, cc, c, c', dT, sT, ty, e, e1, e2, e3, e4, e5, e6, e7, rfl⟩ := he
    simp only [evEff] at h
    split at h <;> try (simp [Tree.sat] at h; done)
    rename_i A hA
    obtain ⟨v, us, h1, h2, h3, h4, h5⟩ := hS.h.ob id _ hA
    rw [e1] at h1; cases h1
    cases hl : Nat.beq A.c.size 1 with
    | false => simp [hl, Tree.sat] at h
    | true =>
      simp only [hl, cond_true] at h
      have hsz : A.c.size = 1 := by simpa using hl
      have hul := LR.len (fun x vs => RepD.len A.c x vs) h3
      have hll : A.xs.length = len := by
        rcases h2.2 with ⟨k, k'⟩ | ⟨g, cap, cur, k, _⟩
        · cases k; omega
        · cases k; rfl
      by_cases h0 : min n' n = 0
      · have hrun := run_copy_none (P := P) w dT sT ty e ap ap' n c n' c' e2 e3 h0
        have hr : (do pure (Next.value (← Builtin.copy_ #[dT, sT] ty #[.slice ap n c, .slice ap' n' c'])) : Sem Next).run P w = .ok (.value (goInt 0)) w := by
          simp only [Sem.run_bind, hrun, Sem.run_pure, Result.andThen_ok]
        rw [hr]
        refine hK σ _ _ _ (Ext.refl _) (hS.put hd (x := .int .i64 ((min n' n : Nat) : Int)) (v := goInt 0) (by rw [h0]; exact rep_int ⟨by simp [minK], by simp [maxK]⟩)) ?_
        have hup : upd s.hp id (some (.arr ⟨A.ty, A.c, A.xs.take p ++ ((A.xs.drop p').take (min n' n) ++ A.xs.drop (p + min n' n))⟩)) = s.hp := by
          funext i
          by_cases hi : i = id
          · subst hi
            rw [upd_same, hA, h0, List.take_zero, List.nil_append, Nat.add_zero, List.take_append_drop]
          · exact upd_other _ _ hi
        rw [hup] at h
        exact h
      · rcases h2.2 with ⟨_, k⟩ | ⟨g, cap, cur, k1, k2, k3, k4, k5, k6, k7⟩
        · omega
        cases k1
        have hg := (h5 g).1 rfl
        have hm1 : min n' n ≤ n' := Nat.min_le_left _ _
        have hm2 : min n' n ≤ n := Nat.min_le_right _ _
        have a1 := e6 g rfl (by omega)
        have a2 := e7 g rfl (by omega)
        subst a1; subst a2
        generalize hm : min n' n = m at *
        rw [hsz, Nat.mul_one] at hul k6 k7
        have hcs : ((us.drop p').take m).length = m := by simp; omega
        have hcur : cur.toList.length = cc := by simpa using k6
        have hone : ∀ y ∈ us, y.oneCell' = true := LR.all (fun x vs => RepD.one A.c x vs) h3
        have hrun := run_copy_row (P := P) w dT sT ty e g p n c ⟨g, p', none⟩ n' c' cur A.ty ((us.drop p').take m) e2 e3 k3 (by rw [hcs]; exact hm.symm) (fun j y hj => by
          rw [List.getElem?_take] at hj
          split at hj
          · rw [List.getElem?_drop] at hj
            have := h2.cells (g := g) rfl (p' + j) y hj
            rw [Addr.add_lit, Nat.zero_add] at this
            rw [Addr.add_lit]
            exact this
          · cases hj) (by rw [hcs, k6]; omega) (fun y hy => hone y (List.mem_of_mem_drop (List.mem_of_mem_take hy)))
        rw [hcs] at hrun
        have hr : (do pure (Next.value (← Builtin.copy_ #[dT, sT] ty #[.slice (some ⟨g, p, none⟩) n c, .slice (some ⟨g, p', none⟩) n' c'])) : Sem Next).run P w = .ok (.value (goInt m)) (w.setRow g (cur.toList.take p ++ (us.drop p').take m ++ cur.toList.drop (p + m)).toArray) := by
          simp only [Sem.run_bind, hrun, Sem.run_pure, Result.andThen_ok]
        rw [hr]
        have hob : ObRel w0.heap.size σ (w.setRow g (cur.toList.take p ++ (us.drop p').take m ++ cur.toList.drop (p + m)).toArray) id (.arr ⟨A.ty, A.c, A.xs.take p ++ ((A.xs.drop p').take m ++ A.xs.drop (p + m))⟩) := by
          have hlen : (A.xs.take p ++ ((A.xs.drop p').take m ++ A.xs.drop (p + m))).length = A.xs.length := by simp; omega
          have hulen : (us.take p ++ ((us.drop p').take m ++ us.drop (p + m))).length = us.length := by simp; omega
          have l1 := LR.take (fun x vs => RepD.len A.c x vs) p h3 (by omega)
          have l2 := LR.take (fun x vs => RepD.len A.c x vs) m (LR.drop (fun x vs => RepD.len A.c x vs) p' h3 (by omega)) (by simp; omega)
          have l3 := LR.drop (fun x vs => RepD.len A.c x vs) (p + m) h3 (by omega)
          rw [hsz, Nat.mul_one] at l1 l3
          rw [hsz, Nat.mul_one, Nat.mul_one] at l2
          refine ⟨_, _, e1, ?_, l1.append (l2.append l3), h4, h5⟩
          rw [hlen, hsz]
          refine ⟨by rw [hulen]; omega, .inr ⟨g, cc, _, rfl, k2, setRow_heap w g _ _ _ _ k3, by omega, k5, by simp; omega, ?_⟩⟩
          have q1 : us.take p = cur.toList.take p := by rw [← k7, List.take_take, Nat.min_eq_left (by omega)]
          have q2 : us.drop (p + m) = (cur.toList.drop (p + m)).take (A.xs.length - (p + m)) := by rw [← k7, List.drop_take]
          have q3 : (cur.toList.take p ++ (us.drop p').take m).length = p + m := by rw [List.length_append, hcs, List.length_take]; omega
          rw [Nat.mul_one, List.toList_toArray, q1, q2, ← List.append_assoc]
          rw [show A.xs.length = (cur.toList.take p ++ (us.drop p').take m).length + (A.xs.length - (p + m)) by omega, List.take_length_add_append]
          congr 2; omega
        have hh := hS.h.turn (by rw [hA]; simp) hg _ hob
        have hS' := hS.mono (Ext.refl _) hh (below_setRow hS.bl k2 _)
        exact hK σ _ _ _ (Ext.refl _) (hS'.put hd (x := .int .i64 ((m : Nat) : Int)) (v := goInt m) (rep_int ⟨by simp only [minK]; omega, by simp only [maxK, maxLen] at *; omega⟩)) h
  | .trunc id st n, he, h, hK => by
    obtain ⟨v, τ, s', rfl, h1, h2, h3⟩ := trunc_sound hS hd he h
    exact hK τ s' _ _ h1 h2 h3
  | .bad, _, h, _ => by simp [evEff, Tree.sat] at h

theorem Sat.learn {rd : Bool} {w0 : World} {σ : Env} {s : St} {a : Go.Act} {w : World} (h : Sat rd w0 σ s a w) {d : Nat} {x : AV} (hx : Rep σ x (a.tmps.getD d undef)) : Sat rd w0 σ (s.put (some d) x) a w := by
  refine ⟨h.h, fun t => ?_, h.n, h.df, h.bl, h.rd⟩
  by_cases ht : t = d
  · subst ht
    show Rep σ (upd s.tm t x t) _
    rw [upd_same]; exact hx
  · show Rep σ (upd s.tm d x t) _
    rw [upd_other _ _ ht]; exact h.tm t

theorem yielded_of {ops : Array Oper} {a : Go.Act} {j d : Nat} (hd : (ops[j]?).bind (·.dst) = some d) (hlt : d < a.tmps.size) : yielded ops a.tmps j = match a.tmps.getD d undef with | .bool b => some b | _ => none := by
  have : a.tmps[d]? = some (a.tmps.getD d undef) := by simp [Array.getD, hlt]
  unfold yielded
  rw [hd]
  simp only [Option.bind_some, this]
  cases a.tmps.getD d undef <;> rfl

theorem evOps_step (hc : CTok P cT R) {rd : Bool} {w0 : World} {ops : Array Oper} {K : XE → St → Tree α} {Q : Exit → Go.Act → World → Prop} {next : Go.Act → World → Prop} {i : Nat} {rest : List Nat} {σ : Env} {s : St} {a : Go.Act} {w : World}
    (hS : Sat rd w0 σ s a w) (h : (evOps P cT ops (i :: rest) s K).sat R) (hP : ∀ τ s' x ch a' w', Ext σ τ → Sat rd w0 τ s' a' w' → ExR τ (.panic x) (.panic ch) → (K (.panic x) s').sat R → Q (.panic ch) a' w') (IH : ∀ τ s' a' w', Ext σ τ → Sat rd w0 τ s' a' w' → (evOps P cT ops rest s' K).sat R → next a' w') : wpOpX P rd ops Q i next a w := by
    unfold wpOpX
    simp only [evOps] at h
    cases ho : ops[i]? with
    | none => simp only [ho] at h ⊢; exact IH σ s a w (Ext.refl _) hS h
    | some o =>
      simp only [ho] at h ⊢
      cases hd : Nat.ble s.n (o.dst.getD 0) with
      | true => simp [hd, Tree.sat] at h
      | false =>
        simp only [hd, cond_false] at h
        have hd' : o.dst.getD 0 < s.n := by
          rcases Nat.lt_or_ge (o.dst.getD 0) s.n with x | x
          · exact x
          · have : Nat.ble s.n (o.dst.getD 0) = true := by simpa using x
            rw [this] at hd; simp at hd
        cases hg : o.guard with
        | none =>
          simp only [hg] at h
          rw [if_pos (by simp [Region.wanted, hg])]
          exact evEff_sound (K := fun e s' => match e with | .normal => evOps P cT ops rest s' K | e => K e s') hc hS hd' (fun τ s' x ch w' e hS' hx hk => hP τ s' x ch a w' e hS' hx hk) _ (eff_ok hS.h.mem hS.eval o) h IH
        | some g =>
          obtain ⟨j, want⟩ := g
          simp only [hg] at h
          cases hdst : (ops[j]?).bind (·.dst) with
          | none => simp [hdst, Tree.sat] at h
          | some d =>
            simp only [hdst] at h
            cases hn : Nat.ble s.n d with
            | true => simp [hn, Tree.sat] at h
            | false =>
              simp only [hn, cond_false] at h
              have hlt : d < a.tmps.size := by
                rw [hS.n]
                rcases Nat.lt_or_ge d s.n with x | x
                · exact x
                · have : Nat.ble s.n d = true := by simpa using x
                  rw [this] at hn; simp at hn
              have hy := yielded_of hdst hlt
              have hr := hS.tm d
              cases hx : s.tm d with
              | bool b =>
                rw [hx] at hr h
                simp only [Rep] at hr
                rw [hr] at hy
                simp only at hy h
                have hw : Region.wanted o (yielded ops a.tmps) = (b == want) := by simp [Region.wanted, hg, hy]
                have hL : Sat rd w0 σ (s.put (some d) (.bool b)) a w := hS.learn (by rw [hr]; simp only [Rep])
                cases b <;> cases want <;> simp only [cond_true, cond_false] at h <;> rw [hw]
                · rw [if_pos (show (false == false) = true from rfl)]
                  exact evEff_sound (K := fun e s' => match e with | .normal => evOps P cT ops rest s' K | e => K e s') hc hL hd' (fun τ s' x ch w' e hS' hx hk => hP τ s' x ch a w' e hS' hx hk) _ (eff_ok hL.h.mem hL.eval o) h IH
                · rw [if_neg (by decide)]
                  exact IH σ _ _ _ (Ext.refl _) (hL.put hd' (by simp only [Rep])) h
                · rw [if_neg (by decide)]
                  exact IH σ _ _ _ (Ext.refl _) (hL.put hd' (by simp only [Rep])) h
                · rw [if_pos (show (true == true) = true from rfl)]
                  exact evEff_sound (K := fun e s' => match e with | .normal => evOps P cT ops rest s' K | e => K e s') hc hL hd' (fun τ s' x ch w' e hS' hx hk => hP τ s' x ch a w' e hS' hx hk) _ (eff_ok hL.h.mem hL.eval o) h IH
              | val v =>
                rw [hx] at hr h
                simp only [Rep] at hr
                cases v with
                | tuple vs =>
                  rw [hr] at hy
                  simp only at hy h
                  rw [if_neg (by simp [Region.wanted, hg, hy])]
                  exact IH σ _ _ _ (Ext.refl _) (hS.put hd' (by simp only [Rep])) h
                | _ => simp [Tree.sat] at h
              | _ => rw [hx] at h; simp [Tree.sat] at h
theorem evOps_sound (hc : CTok P cT R) {rd : Bool} {w0 : World} {ops : Array Oper} {K : XE → St → Tree α} {Q : Exit → Go.Act → World → Prop} : ∀ (l : List Nat) (σ : Env) (s : St) (a : Go.Act) (w : World),
    Sat rd w0 σ s a w → (evOps P cT ops l s K).sat R → (∀ τ s' a' w' e ex, Ext σ τ → Sat rd w0 τ s' a' w' → ExR τ e ex → (K e s').sat R → Q ex a' w') → wpOpsX P rd ops Q l a w
  | [], σ, s, a, w, hS, h, hK => hK σ s a w .normal .normal (Ext.refl _) hS trivial h
  | i :: rest, σ, s, a, w, hS, h, hK => by
    show wpOpX P rd ops Q i (wpOpsX P rd ops Q rest) a w
    exact evOps_step hc hS h (fun τ s' x ch a' w' e hS' hx hk => hK τ s' a' w' _ _ e hS' hx hk) fun τ s' a' w' e hS' h' => evOps_sound hc rest τ s' a' w' hS' h' (fun τ' s2 a2 w2 x2 ex2 e2 => hK τ' s2 a2 w2 x2 ex2 (e.trans e2))

end
end V
end Go.Proofs.Ytgchccljmjmibaa
/- That the symbolic evaluator of the text Ea is sound: a region whose order is open. -/
namespace Go.Proofs.Ytgchccljmjmibaa
open Go.RowKit
namespace V

/-- the function is one with a body, and no name that the machine treats by itself -/
def Plain (P : Program) (f : FuncId) : Prop := ∃ fn, P.funcs[f]? = some fn ∧ (fn.name == "runtime.NumGoroutine") = false ∧ fn.body.isSome = true
theorem Plain.run {P : Program} {f : FuncId} (h : Plain P f) (us : Array Value) (w : World) : (callFunc f us).run P w = .ok (.enter f us) w := by
  obtain ⟨fn, h1, h2, h3⟩ := h
  have h4 : fn.body.isNone = false := by cases hb : fn.body <;> simp [hb] at h3 ⊢
  simp only [callFunc, Sem.run_bind, run_program, Result.andThen_ok, h1, h2, h4, Bool.false_eq_true, if_false, Sem.run_pure]

theorem assoc_mem {β : Type} : ∀ {l : List (Nat × β)} {i : Nat} {x : β}, assoc l i = some x → (i, x) ∈ l
  | [], _, _, h => by simp [assoc] at h
  | (k, y) :: l, i, x, h => by
    simp only [assoc] at h
    by_cases hk : k = i
    · subst hk
      simp at h; subst h; simp
    · simp only [beq_ne hk, cond_false] at h
      exact List.mem_cons_of_mem _ (assoc_mem h)

/-- what is owed for the summary of a function that leaves memory alone -/
def PureOk (P : Program) (f : FuncId) (g : PureT) : Prop :=
  ∀ (σ : Env) (w : World) (xs : List AV) (us : List Value) (x : AV), (∀ i n, σ i = some n → n < w.heap.size) → MemOk σ.mem w → RepL σ xs us → g.run xs = some (true, x) →
    Calls' P f us.toArray w fun e w' => ∃ v m', e = .returned v ∧ MemOk m' w' ∧ (∀ b o u, σ.mem b o = some u → m' b o = some u) ∧ (∀ b o u, m' b o = some u → σ.mem b o = some u ∨ w.heap.size ≤ b) ∧ (g.flat = false → Rep ⟨fun _ => none, m', fun _ => none, fun _ _ => none, fun _ => none, 0, fun _ => false, fun _ => false⟩ x v) ∧ (g.flat = true → ∀ τ : Env, (∀ i b, σ i = some b → τ i = some b) → Rep τ x v) ∧ (g.fr = true → Rep ⟨fun _ => none, fun b o => bif Nat.ble w.heap.size b then m' b o else none, fun _ => none, fun _ _ => none, fun _ => none, 0, fun _ => false, fun _ => false⟩ x v) ∧ Below w.heap.size w w'

theorem setsA_get {β : Type} : ∀ (vs : List β) (lo : Nat) (cs : List β) (c : Nat), (setsA cs lo vs)[c]? = if lo ≤ c ∧ c < lo + vs.length ∧ c < cs.length then vs[c - lo]? else cs[c]?
  | [], lo, cs, c => by
    simp only [setsA, List.length_nil]
    rw [if_neg (by omega)]
  | v :: vs, lo, cs, c => by
    simp only [setsA, setA_eq]
    rw [setsA_get vs (lo + 1) (cs.set lo v) c]
    simp only [List.length_set, List.length_cons]
    by_cases h1 : lo + 1 ≤ c ∧ c < lo + 1 + vs.length ∧ c < cs.length
    · rw [if_pos h1, if_pos (by omega)]
      have : c - lo = (c - (lo + 1)) + 1 := by omega
      rw [this, List.getElem?_cons_succ]
    · rw [if_neg h1, List.getElem?_set]
      by_cases h2 : lo = c
      · subst h2
        rw [if_pos rfl]
        by_cases h3 : lo < cs.length
        · rw [if_pos h3, if_pos (by omega)]; simp
        · rw [if_neg h3, if_neg (by omega), List.getElem?_eq_none (by omega)]
      · rw [if_neg h2, if_neg (by omega)]
theorem setsA_comm {β : Type} (cs : List β) {lo lo' : Nat} {vs vs' : List β} (h : lo + vs.length ≤ lo' ∨ lo' + vs'.length ≤ lo) : setsA (setsA cs lo vs) lo' vs' = setsA (setsA cs lo' vs') lo vs := by
  apply List.ext_getElem?
  intro c
  rw [setsA_get, setsA_get, setsA_get, setsA_get, setsA_length, setsA_length]
  by_cases h1 : lo ≤ c ∧ c < lo + vs.length ∧ c < cs.length
  · by_cases h2 : lo' ≤ c ∧ c < lo' + vs'.length ∧ c < cs.length
    · omega
    · rw [if_neg h2, if_pos h1, if_pos h1]
  · by_cases h2 : lo' ≤ c ∧ c < lo' + vs'.length ∧ c < cs.length
    · rw [if_pos h2, if_neg h1, if_pos h2]
    · rw [if_neg h2, if_neg h1, if_neg h1, if_neg h2]

theorem app_n (id0 : Nat) (it : It) (s : St) : (it.app id0 s).n = s.n := by
  unfold It.app St.put; split <;> rfl
theorem app_nx (id0 : Nat) (it : It) (s : St) : (it.app id0 s).nx = s.nx := by
  unfold It.app St.put; split <;> rfl
theorem app_df (id0 : Nat) (it : It) (s : St) : (it.app id0 s).df = s.df := by
  unfold It.app St.put; split <;> rfl
theorem app_rd (id0 : Nat) (it : It) (s : St) : (it.app id0 s).rd = s.rd := by
  unfold It.app St.put; split <;> rfl
theorem app_hp (id0 : Nat) (it : It) (s : St) : (it.app id0 s).hp = it.mem.app id0 s.hp := by
  unfold It.app St.put; split <;> rfl
theorem app_tm (id0 : Nat) (it : It) (s : St) (t : Nat) : (it.app id0 s).tm t = if it.dst = some t then it.res else s.tm t := by
  unfold It.app St.put
  cases h : it.dst with
  | none => simp
  | some d =>
    simp only
    by_cases hd : t = d
    · subst hd; rw [upd_same]; simp
    · rw [upd_other _ _ hd, if_neg (by simp; exact fun e => hd e.symm)]

section
variable {nx : Nat}
theorem appD_n (D : Nat → Bool) : ∀ (l : List It) (k : Nat) (s : St), (appD nx D k l s).n = s.n
  | [], _, _ => rfl
  | it :: l, k, s => by
    simp only [appD]; rw [appD_n D l]; cases D k
    · rfl
    · exact app_n _ _ _
theorem appD_nx (D : Nat → Bool) : ∀ (l : List It) (k : Nat) (s : St), (appD nx D k l s).nx = s.nx
  | [], _, _ => rfl
  | it :: l, k, s => by
    simp only [appD]; rw [appD_nx D l]; cases D k
    · rfl
    · exact app_nx _ _ _

theorem appD_df (D : Nat → Bool) : ∀ (l : List It) (k : Nat) (s : St), (appD nx D k l s).df = s.df
  | [], _, _ => rfl
  | it :: l, k, s => by
    simp only [appD]
    rw [appD_df D l]
    cases D k
    · rfl
    · simp only [cond_true, app_df]
theorem appD_rd (D : Nat → Bool) : ∀ (l : List It) (k : Nat) (s : St), (appD nx D k l s).rd = s.rd
  | [], _, _ => rfl
  | it :: l, k, s => by
    simp only [appD]
    rw [appD_rd D l]
    cases D k
    · rfl
    · simp only [cond_true, app_rd]
theorem appD_tm {D E : Nat → Bool} {t : Nat} : ∀ (l : List It) (k : Nat) (s s' : St), s.tm t = s'.tm t → (∀ m it, l[m]? = some it → it.dst = some t → D (k + m) = E (k + m)) → (appD nx D k l s).tm t = (appD nx E k l s').tm t
  | [], _, _, _, h, _ => h
  | it :: l, k, s, s', h, hd => by
    simp only [appD]
    refine appD_tm l (k + 1) _ _ ?_ (fun m it' hm hi => by have := hd (m + 1) it' (by simpa using hm) hi; rwa [show k + (m + 1) = k + 1 + m by omega] at this)
    by_cases hi : it.dst = some t
    · have h0 : D k = E k := hd 0 it rfl hi
      rw [h0]
      cases E k
      · exact h
      · simp only [cond_true]; rw [app_tm, app_tm, if_pos hi, if_pos hi]
    · cases D k <;> cases E k <;> simp only [cond_true, cond_false, app_tm, if_neg hi] <;> exact h
theorem appD_tm_some {D : Nat → Bool} {t : Nat} : ∀ (l : List It) (k : Nat) (s : St) (m : Nat) (it : It), l[m]? = some it → it.dst = some t → D (k + m) = true → (∀ m' it', m' ≠ m → l[m']? = some it' → it'.dst ≠ some t) → (appD nx D k l s).tm t = it.res
  | [], _, _, m, it, h, _, _, _ => by simp at h
  | i0 :: l, k, s, 0, it, h, hd, hD, hu => by
    simp at h; subst h
    have hD' : D k = true := hD
    simp only [appD, hD', cond_true]
    rw [appD_tm (E := fun _ => false) l (k + 1) _ ((i0.app (nx + k) s)) rfl (fun m it' hm hi => absurd hi (hu (m + 1) it' (by omega) (by simpa using hm)))]
    have : ∀ (l : List It) (k : Nat) (s : St), appD nx (fun _ => false) k l s = s := by
      intro l; induction l with
      | nil => intros; rfl
      | cons a l ih => intro k s; simp only [appD, cond_false]; exact ih _ _
    rw [this, app_tm, if_pos hd]
  | i0 :: l, k, s, m + 1, it, h, hd, hD, hu => by
    simp only [appD]
    exact appD_tm_some l (k + 1) _ m it (by simpa using h) hd (by rwa [show k + (m + 1) = k + 1 + m by omega] at hD) (fun m' it' hm' hi => hu (m' + 1) it' (by omega) (by simpa using hi))

/-- what a block's cell is, and its block's form; what a list is -/
def info (hp : Heap) (id c : Nat) : Option (Option (Sum (TypeId × Nat × Option AV) (Sum Arr Mp))) := (hp id).map fun o => match o with | .blk b => some (.inl (b.ty, b.cs.length, b.cs[c]?)) | .arr A => some (.inr (.inl A)) | .mp M => some (.inr (.inr M)) | _ => none
def writes (m : Mem) (id0 id c : Nat) : Prop :=
  match m with
  | .st id' lo vs => id' = id ∧ lo ≤ c ∧ c < lo + vs.length
  | .al _ => id0 = id
  | .sa id' _ => id' = id
  | .aa _ => id0 = id
  | .sm id' _ => id' = id
  | _ => False
theorem info_same {m : Mem} {id0 id c : Nat} (h : ¬ writes m id0 id c) (hp : Heap) : info (m.app id0 hp) id c = info hp id c := by
  cases m with
  | st id' lo vs =>
    simp only [Mem.app, info]
    by_cases hid : id = id'
    · subst hid
      rw [upd_same]
      cases hb : hp id with
      | none => rfl
      | some b =>
        cases b with
        | blk b =>
          simp only [Option.map_some, setsA_length, setsA_get]
          rw [if_neg (fun hh => h ⟨rfl, hh.1, hh.2.1⟩)]
        | _ => rfl
    · rw [upd_other _ _ hid]
  | al b =>
    simp only [Mem.app, info]
    rw [upd_other _ _ (fun e => h e.symm)]
  | sa id' A =>
    simp only [Mem.app, info]
    rw [upd_other _ _ (fun e => h e.symm)]
  | aa A =>
    simp only [Mem.app, info]
    rw [upd_other _ _ (fun e => h e.symm)]
  | sm id' M =>
    simp only [Mem.app, info]
    rw [upd_other _ _ (fun e => h e.symm)]
  | _ => rfl
theorem info_congr (m : Mem) (id0 : Nat) {id c : Nat} {hp hp' : Heap} (h : info hp id c = info hp' id c) : info (m.app id0 hp) id c = info (m.app id0 hp') id c := by
  cases m with
  | st id' lo vs =>
    simp only [Mem.app, info] at h ⊢
    by_cases hid : id = id'
    · subst hid
      rw [upd_same, upd_same]
      cases hb : hp id with
      | none => cases hb' : hp' id with
        | none => rfl
        | some b' => simp [hb, hb'] at h
      | some b => cases hb' : hp' id with
        | none => simp [hb, hb'] at h
        | some b' =>
          rw [hb, hb'] at h
          cases b <;> cases b' <;> simp only [Option.map_some, Option.some.injEq, Sum.inl.injEq, Sum.inr.injEq, Prod.mk.injEq, reduceCtorEq] at h ⊢
          · obtain ⟨h1, h3, h4⟩ := h
            refine ⟨h1, by rw [setsA_length, setsA_length, h3], ?_⟩
            rw [setsA_get, setsA_get, h3, h4]
          · exact h
          · exact h
    · rw [upd_other _ _ hid, upd_other _ _ hid]; exact h
  | al b =>
    simp only [Mem.app, info] at h ⊢
    by_cases hid : id = id0
    · subst hid; rw [upd_same, upd_same]
    · rw [upd_other _ _ hid, upd_other _ _ hid]; exact h
  | sa id' A =>
    simp only [Mem.app, info] at h ⊢
    by_cases hid : id = id'
    · subst hid; rw [upd_same, upd_same]
    · rw [upd_other _ _ hid, upd_other _ _ hid]; exact h
  | aa A =>
    simp only [Mem.app, info] at h ⊢
    by_cases hid : id = id0
    · subst hid; rw [upd_same, upd_same]
    · rw [upd_other _ _ hid, upd_other _ _ hid]; exact h
  | sm id' M =>
    simp only [Mem.app, info] at h ⊢
    by_cases hid : id = id'
    · subst hid; rw [upd_same, upd_same]
    · rw [upd_other _ _ hid, upd_other _ _ hid]; exact h
  | _ => exact h
theorem appD_info {D E : Nat → Bool} {id c : Nat} : ∀ (l : List It) (k : Nat) (s s' : St), info s.hp id c = info s'.hp id c → (∀ m it, l[m]? = some it → writes it.mem (nx + (k + m)) id c → D (k + m) = E (k + m)) → info (appD nx D k l s).hp id c = info (appD nx E k l s').hp id c
  | [], _, _, _, h, _ => h
  | it :: l, k, s, s', h, hd => by
    simp only [appD]
    refine appD_info l (k + 1) _ _ ?_ (fun m it' hm hi => by
      have := hd (m + 1) it' (by simpa using hm) (by rw [show k + (m + 1) = k + 1 + m by omega]; exact hi)
      rwa [show k + (m + 1) = k + 1 + m by omega] at this)
    by_cases hi : writes it.mem (nx + k) id c
    · have h0 : D k = E k := hd 0 it rfl hi
      rw [h0]
      cases E k
      · exact h
      · simp only [cond_true]; rw [app_hp, app_hp]; exact info_congr _ _ h
    · cases D k <;> cases E k <;> simp only [cond_true, cond_false, app_hp, info_same hi] <;> exact h

theorem mem_comm {a b : Nat} {m k : Mem} (hab : a ≠ b) (h : memIndep a m b k = true) (hp : Heap) : m.app a (k.app b hp) = k.app b (m.app a hp) := by
  have ap : ∀ {id lo hi id' lo' hi' : Nat}, apartB id lo hi id' lo' hi' = true → id ≠ id' ∨ hi ≤ lo' ∨ hi' ≤ lo := by
    intro id lo hi id' lo' hi' hh
    simp only [apartB, Bool.or_eq_true, Bool.not_eq_true', Nat.ble_eq] at hh
    rcases hh with hh | hh
    · exact .inl (fun e => by subst e; simp at hh)
    · exact .inr hh
  have ne : ∀ {x y : Nat}, (!(Nat.beq x y)) = true → x ≠ y := fun hh e => by subst e; simp at hh
  have two : ∀ {x y : Nat} {u v : Option Ob → Option Ob} (_ : x ≠ y), upd (upd hp y (v (hp y))) x (u (upd hp y (v (hp y)) x)) = upd (upd hp x (u (hp x))) y (v (upd hp x (u (hp x)) y)) := by
    intro x y u v hxy
    funext j
    rw [upd_other _ _ hxy, upd_other _ _ (Ne.symm hxy)]
    by_cases hj : j = x
    · subst hj; simp only [upd_same, upd_other _ _ hxy]
    · by_cases hj' : j = y
      · subst hj'; simp only [upd_same, upd_other _ _ (Ne.symm hxy)]
      · simp only [upd_other _ _ hj, upd_other _ _ hj']
  cases m with
  | no => cases k <;> rfl
  | ld id lo hi => cases k <;> rfl
  | la id => cases k <;> rfl
  | lp => cases k <;> rfl
  | st id lo vs =>
    cases k with
    | no => rfl
    | ld _ _ _ => rfl
    | la _ => rfl
    | lp => rfl
    | st id' lo' vs' =>
      simp only [memIndep, Mem.nrm, memIndep0] at h
      have := ap h
      rw [lenA_eq, lenA_eq] at this
      by_cases hid : id = id'
      · subst hid
        simp only [Mem.app]
        funext j
        by_cases hj : j = id
        · subst hj
          simp only [upd_same]
          cases hp j with
          | none => rfl
          | some b =>
            cases b with
            | blk b =>
              simp only
              rw [setsA_comm]
              rcases this with h1 | h1 | h1
              · exact absurd rfl h1
              · exact .inr h1
              · exact .inl h1
            | _ => rfl
        · simp only [upd_other _ _ hj]
      · exact two (u := fun o => match o with | some (.blk b) => some (.blk ⟨b.ty, setsA b.cs lo vs⟩) | o => o) (v := fun o => match o with | some (.blk b) => some (.blk ⟨b.ty, setsA b.cs lo' vs'⟩) | o => o) hid
    | al blk =>
      simp only [memIndep, Mem.nrm, memIndep0] at h
      exact two (u := fun o => match o with | some (.blk b) => some (.blk ⟨b.ty, setsA b.cs lo vs⟩) | o => o) (v := fun _ => some (.blk blk)) (ne h)
    | sa id' A =>
      simp only [memIndep, Mem.nrm, memIndep0] at h
      exact two (u := fun o => match o with | some (.blk b) => some (.blk ⟨b.ty, setsA b.cs lo vs⟩) | o => o) (v := fun _ => some (.arr A)) (Ne.symm (ne h))
    | aa A =>
      simp only [memIndep, Mem.nrm, memIndep0] at h
      exact two (u := fun o => match o with | some (.blk b) => some (.blk ⟨b.ty, setsA b.cs lo vs⟩) | o => o) (v := fun _ => some (.arr A)) (ne h)
    | sm id' M =>
      simp only [memIndep, Mem.nrm, memIndep0] at h
      exact two (u := fun o => match o with | some (.blk b) => some (.blk ⟨b.ty, setsA b.cs lo vs⟩) | o => o) (v := fun _ => some (.mp M)) (Ne.symm (ne h))
  | aa A =>
    cases k with
    | no => rfl
    | ld _ _ _ => rfl
    | la _ => rfl
    | lp => rfl
    | st id' lo' vs' =>
      simp only [memIndep, Mem.nrm, memIndep0] at h
      exact two (u := fun _ => some (.arr A)) (v := fun o => match o with | some (.blk b) => some (.blk ⟨b.ty, setsA b.cs lo' vs'⟩) | o => o) (Ne.symm (ne h))
    | al blk' => exact two (u := fun _ => some (.arr A)) (v := fun _ => some (.blk blk')) hab
    | sa id' A' =>
      simp only [memIndep, Mem.nrm, memIndep0] at h
      exact two (u := fun _ => some (.arr A)) (v := fun _ => some (.arr A')) (Ne.symm (ne h))
    | aa A' => exact two (u := fun _ => some (.arr A)) (v := fun _ => some (.arr A')) hab
    | sm id' M =>
      simp only [memIndep, Mem.nrm, memIndep0] at h
      exact two (u := fun _ => some (.arr A)) (v := fun _ => some (.mp M)) (Ne.symm (ne h))
  | al blk =>
    cases k with
    | no => rfl
    | ld _ _ _ => rfl
    | la _ => rfl
    | lp => rfl
    | st id' lo' vs' =>
      simp only [memIndep, Mem.nrm, memIndep0] at h
      exact two (u := fun _ => some (.blk blk)) (v := fun o => match o with | some (.blk b) => some (.blk ⟨b.ty, setsA b.cs lo' vs'⟩) | o => o) (Ne.symm (ne h))
    | al blk' => exact two (u := fun _ => some (.blk blk)) (v := fun _ => some (.blk blk')) hab
    | sa id' A =>
      simp only [memIndep, Mem.nrm, memIndep0] at h
      exact two (u := fun _ => some (.blk blk)) (v := fun _ => some (.arr A)) (Ne.symm (ne h))
    | aa A => exact two (u := fun _ => some (.blk blk)) (v := fun _ => some (.arr A)) hab
    | sm id' M =>
      simp only [memIndep, Mem.nrm, memIndep0] at h
      exact two (u := fun _ => some (.blk blk)) (v := fun _ => some (.mp M)) (Ne.symm (ne h))
  | sa id A =>
    cases k with
    | no => rfl
    | ld _ _ _ => rfl
    | la _ => rfl
    | lp => rfl
    | st id' lo' vs' =>
      simp only [memIndep, Mem.nrm, memIndep0] at h
      exact two (u := fun _ => some (.arr A)) (v := fun o => match o with | some (.blk b) => some (.blk ⟨b.ty, setsA b.cs lo' vs'⟩) | o => o) (ne h)
    | al blk' =>
      simp only [memIndep, Mem.nrm, memIndep0] at h
      exact two (u := fun _ => some (.arr A)) (v := fun _ => some (.blk blk')) (ne h)
    | sa id' A' =>
      simp only [memIndep, Mem.nrm, memIndep0, Bool.and_eq_true] at h
      exact two (u := fun _ => some (.arr A)) (v := fun _ => some (.arr A')) (ne h.1)
    | aa A' =>
      simp only [memIndep, Mem.nrm, memIndep0] at h
      exact two (u := fun _ => some (.arr A)) (v := fun _ => some (.arr A')) (ne h)
    | sm id' M =>
      simp only [memIndep, Mem.nrm, memIndep0] at h
      exact two (u := fun _ => some (.arr A)) (v := fun _ => some (.mp M)) (Ne.symm (ne h))
  | sm id M =>
    cases k with
    | no => rfl
    | ld _ _ _ => rfl
    | la _ => rfl
    | lp => rfl
    | st id' lo' vs' =>
      simp only [memIndep, Mem.nrm, memIndep0] at h
      exact two (u := fun _ => some (.mp M)) (v := fun o => match o with | some (.blk b) => some (.blk ⟨b.ty, setsA b.cs lo' vs'⟩) | o => o) (ne h)
    | al blk' =>
      simp only [memIndep, Mem.nrm, memIndep0] at h
      exact two (u := fun _ => some (.mp M)) (v := fun _ => some (.blk blk')) (ne h)
    | sa id' A' =>
      simp only [memIndep, Mem.nrm, memIndep0] at h
      exact two (u := fun _ => some (.mp M)) (v := fun _ => some (.arr A')) (ne h)
    | aa A' =>
      simp only [memIndep, Mem.nrm, memIndep0] at h
      exact two (u := fun _ => some (.mp M)) (v := fun _ => some (.arr A')) (ne h)
    | sm id' M' =>
      simp only [memIndep, Mem.nrm, memIndep0, Bool.and_eq_true] at h
      exact two (u := fun _ => some (.mp M)) (v := fun _ => some (.mp M')) (ne h.1)

/-- all of a list's items, in their order: one more item is put in at its place, or at the end -/
theorem appD_push {D : Nat → Bool} {i : Nat} {it : It} : ∀ (l : List It) (k : Nat) (hp : Heap) (s : St), s.hp = it.mem.app (nx + i) hp → ∀ (s' : St), s'.hp = hp → i < k →
    (∀ m q, l[m]? = some q → D (k + m) = true → memIndep (nx + i) it.mem (nx + (k + m)) q.mem = true) → (appD nx D k l s).hp = it.mem.app (nx + i) (appD nx D k l s').hp
  | [], _, _, _, h, _, h', _, _ => by simp only [appD]; rw [h, h']
  | q :: l, k, hp, s, h, s', h', hk, hm => by
    simp only [appD]
    cases hD : D k
    · simp only [cond_false]
      exact appD_push l (k + 1) hp _ h _ h' (by omega) (fun m q' hq hd => by
        have := hm (m + 1) q' (by simpa using hq) (by rw [show k + (m + 1) = k + 1 + m by omega]; exact hd)
        rwa [show k + (m + 1) = k + 1 + m by omega] at this)
    · simp only [cond_true]
      have h0 := hm 0 q rfl (by simpa using hD)
      refine appD_push l (k + 1) (q.mem.app (nx + k) hp) _ ?_ _ ?_ (by omega) (fun m q' hq hd => by
        have := hm (m + 1) q' (by simpa using hq) (by rw [show k + (m + 1) = k + 1 + m by omega]; exact hd)
        rwa [show k + (m + 1) = k + 1 + m by omega] at this)
      · rw [app_hp, h]; exact (mem_comm (by omega) (by simpa using h0) hp).symm
      · rw [app_hp, h']

theorem appD_insert_hp {D : Nat → Bool} {i : Nat} {it : It} (hi : D i = false) : ∀ (l : List It) (k : Nat) (s : St), k ≤ i → l[i - k]? = some it →
    (∀ m q, l[m]? = some q → i < k + m → D (k + m) = true → memIndep (nx + i) it.mem (nx + (k + m)) q.mem = true) →
    (appD nx (fun j => D j || Nat.beq j i) k l s).hp = it.mem.app (nx + i) (appD nx D k l s).hp
  | [], _, _, _, h, _ => by simp at h
  | q :: l, k, s, hk, h, hm => by
    simp only [appD]
    by_cases hki : k = i
    · subst hki
      simp at h; subst h
      rw [hi, show Nat.beq k k = true by simp]
      simp only [Bool.or_true, cond_true, cond_false]
      have hext : ∀ (l : List It) (k' : Nat) (s : St), k < k' → appD nx (fun j => D j || Nat.beq j k) k' l s = appD nx D k' l s := by
        intro l
        induction l with
        | nil => intros; rfl
        | cons a l ih =>
          intro k' s hlt
          simp only [appD]
          rw [beq_ne (show k' ≠ k by omega), Bool.or_false, ih _ _ (by omega)]
      rw [hext l (k + 1) _ (by omega)]
      exact appD_push l (k + 1) s.hp _ (app_hp _ _ _) s rfl (by omega) (fun m q' hq hd => by
        have := hm (m + 1) q' (by simpa using hq) (by omega) (by rw [show k + (m + 1) = k + 1 + m by omega]; exact hd)
        rwa [show k + (m + 1) = k + 1 + m by omega] at this)
    · rw [beq_ne hki, Bool.or_false]
      refine appD_insert_hp hi l (k + 1) _ (by omega) ?_ (fun m q' hq hlt hd => by
        have := hm (m + 1) q' (by simpa using hq) (by omega) (by rw [show k + (m + 1) = k + 1 + m by omega]; exact hd)
        rwa [show k + (m + 1) = k + 1 + m by omega] at this)
      have : i - k = (i - (k + 1)) + 1 := by omega
      rw [this] at h; simpa using h

theorem appD_insert {D : Nat → Bool} {i : Nat} {it : It} {l : List It} {s : St} (hi : D i = false) (hl : l[i]? = some it)
    (hu : ∀ (m : Nat) (q : It) (d : Nat), m ≠ i → l[m]? = some q → it.dst = some d → q.dst ≠ some d)
    (hm : ∀ (m : Nat) (q : It), l[m]? = some q → i < m → D m = true → memIndep (nx + i) it.mem (nx + m) q.mem = true) :
    appD nx (fun j => D j || Nat.beq j i) 0 l s = it.app (nx + i) (appD nx D 0 l s) := by
  have h1 : (appD nx (fun j => D j || Nat.beq j i) 0 l s).hp = (it.app (nx + i) (appD nx D 0 l s)).hp := by
    rw [app_hp]
    exact appD_insert_hp hi l 0 s (Nat.zero_le _) (by simpa using hl) (fun m q hq hlt hd => by have := hm m q hq (by omega) (by simpa using hd); simpa using this)
  have h2 : (appD nx (fun j => D j || Nat.beq j i) 0 l s).tm = (it.app (nx + i) (appD nx D 0 l s)).tm := by
    funext t
    rw [app_tm]
    by_cases hd : it.dst = some t
    · rw [if_pos hd]
      exact appD_tm_some l 0 s i it hl hd (by simp) (fun m' q hne hq => hu m' q t hne hq hd)
    · rw [if_neg hd]
      refine appD_tm l 0 s s rfl (fun m q hq hq' => ?_)
      simp only [Nat.zero_add]
      have hne : m ≠ i := fun e => by subst e; rw [hl] at hq; cases hq; exact hd hq'
      rw [beq_ne hne, Bool.or_false]
  have h3 : (appD nx (fun j => D j || Nat.beq j i) 0 l s).n = (it.app (nx + i) (appD nx D 0 l s)).n := by rw [app_n, appD_n, appD_n]
  have h4 : (appD nx (fun j => D j || Nat.beq j i) 0 l s).nx = (it.app (nx + i) (appD nx D 0 l s)).nx := by rw [app_nx, appD_nx, appD_nx]
  have h5 : (appD nx (fun j => D j || Nat.beq j i) 0 l s).df = (it.app (nx + i) (appD nx D 0 l s)).df := by rw [app_df, appD_df, appD_df]
  have h6 : (appD nx (fun j => D j || Nat.beq j i) 0 l s).rd = (it.app (nx + i) (appD nx D 0 l s)).rd := by rw [app_rd, appD_rd, appD_rd]
  cases ha : appD nx (fun j => D j || Nat.beq j i) 0 l s with
  | mk a b c d x y =>
    cases hb : it.app (nx + i) (appD nx D 0 l s) with
    | mk a' b' c' d' x' y' =>
      rw [ha, hb] at h1 h2 h3 h4 h5 h6
      simp only at h1 h2 h3 h4 h5 h6
      subst h1; subst h2; subst h3; subst h4; subst h5; subst h6; rfl
end

section
variable {P : Program} (pu : List (Nat × PureT)) (id0 : Nat)
/-- what an item of a plan says of its operation, in a state -/
def EffIt (s : St) (it : It) : Eff → Prop
  | .val x => it.res = x ∧ it.mem = .no
  | .load id row st col n agg => (∃ b, s.hp id = some (.blk b) ∧ 1 ≤ n ∧ row * st + col + n ≤ b.cs.length ∧ it.mem = .ld id (row * st + col) (row * st + col + n) ∧
      (if agg = true then it.res = .agg ((b.cs.drop (row * st + col)).take n) else b.cs[row * st + col]? = some it.res)) ∨
      ∃ A, s.hp id = some (.arr A) ∧ A.c.size = st ∧ col + n ≤ st ∧ row < A.xs.length ∧ it.mem = .la id ∧
      (if agg = true then it.res = .agg (((enc A.c (getA A.xs row (dflt A.c))).drop col).take n) else (enc A.c (getA A.xs row (dflt A.c)))[col]? = some it.res)
  | .store id row st col vs => (∃ b, s.hp id = some (.blk b) ∧ 1 ≤ vs.length ∧ row * st + col + vs.length ≤ b.cs.length ∧ it.mem = .st id (row * st + col) vs ∧ it.res = .val undef) ∨
      ∃ A x, s.hp id = some (.arr A) ∧ A.c.size = st ∧ col + vs.length ≤ st ∧ row < A.xs.length ∧ dec A.c (setsA (enc A.c (getA A.xs row (dflt A.c))) col vs) = some (x, []) ∧ it.mem = .sa id ⟨A.ty, A.c, setA A.xs row x⟩ ∧ it.res = .val undef
  | .alloc b mk => it.mem = .al b ∧ it.res = mk id0
  | .list ty c xs => it.mem = .aa ⟨ty, c, xs⟩ ∧ it.res = .own id0
  | .idx id st n => ∃ A, s.hp id = some (.arr A) ∧ A.c.size = st ∧ 0 ≤ n ∧ n < A.xs.length ∧ it.mem = .la id ∧ it.res = .ptr id n.toNat st 0
  | .win id st l h => ∃ A, s.hp id = some (.arr A) ∧ (0 ≤ l ∧ l ≤ h.getD A.xs.length ∧ h.getD A.xs.length ≤ A.xs.length) ∧ it.mem = .la id ∧ it.res = .win id l.toNat st ((h.getD A.xs.length).toNat - l.toNat)
  | .len id => ∃ A, s.hp id = some (.arr A) ∧ it.mem = .la id ∧ it.res = .int .i64 A.xs.length
  | .call f args => ∃ g x ys m c, assoc pu f = some g ∧ (g.flat || noVw g) = true ∧ view1 s.hp g.vw args = some (ys, m) ∧ g.run ys = some (c, x) ∧ it.res = x ∧ ((g.pv = none ∧ c = true ∧ it.mem = lookMem m) ∨ ∃ p, g.pv = some p ∧ it.mem = lookPan m c p)
  | .mapGet id kc vc z k ok => ∃ M j z', s.hp id = some (.mp M) ∧ castL kc M.kc [k] = some [j] ∧ castL vc M.vc [z] = some [z'] ∧ it.mem = .la id ∧ it.res = (bif ok then .tup [encA M.vc ((M.get j).getD z'), .bool (M.get j).isSome] else encA M.vc ((M.get j).getD z'))
  | .mapSet id kc vc k x => ∃ M j y, s.hp id = some (.mp M) ∧ castL kc M.kc [k] = some [j] ∧ castL vc M.vc [x] = some [y] ∧ it.mem = .sm id ⟨M.kc, M.vc, fun i => bif beqD M.kc i j then some y else M.get i, M.ents⟩ ∧ it.res = .val undef
  | .test c e => c = true ∧ EffIt s it e
  | .alt c a b => (c = true ∧ EffIt s it a) ∨ (c = false ∧ EffIt s it b)
  | _ => False
def Runs (ops : Array Oper) (o : Oper) (s : St) : Prop :=
  match o.guard with
  | none => True
  | some (j, want) => ∃ d, (ops[j]?).bind (·.dst) = some d ∧ d < s.n ∧ s.tm d = .bool want
def Skips (ops : Array Oper) (o : Oper) (s : St) : Prop :=
  ∃ j want d, o.guard = some (j, want) ∧ (ops[j]?).bind (·.dst) = some d ∧ d < s.n ∧ (s.tm d = .bool (!want) ∨ ∃ vs, s.tm d = .val (.tuple vs))
def ItemOk (P : Program) (ops : Array Oper) (i : Nat) (it : It) (s : St) : Prop :=
  ∃ o, ops[i]? = some o ∧ it.dst = o.dst ∧ o.dst.getD 0 < s.n ∧ ((Runs ops o s ∧ EffIt pu id0 s it (eff P o.op s.eval)) ∨ (Skips ops o s ∧ it.res = .val undef ∧ it.mem = .no))
end
end V
end Go.Proofs.Ytgchccljmjmibaa
/- That the symbolic evaluator of the text Ea is sound: a region whose order is open, second part. -/
namespace Go.Proofs.Ytgchccljmjmibaa
open Go.RowKit
namespace V

section
variable {P : Program} {ρ ρ' : Operand → AV}
theorem map_congr_ops {l : List Operand} (h : ∀ x ∈ l, ρ x = ρ' x) : l.map ρ = l.map ρ' := List.map_congr_left h
theorem eff_congr (o : Op) (h : ∀ x ∈ o.operands, ρ x = ρ' x) : eff P o ρ = eff P o ρ' := by
  cases o <;> simp only [Op.operands, Call.operands] at h <;> first
    | rfl
    | (simp only [eff]; rw [h _ (by simp)]; done)
    | (simp only [eff]; rw [h _ (by simp)]; rfl)
    | skip
  case next x b =>
    cases b with
    | false => rfl
    | true =>
      have h1 := h x (by simp)
      simp only [eff, h1]
  case pick c a b =>
    have h1 := h c (by simp); have h2 := h a (by simp); have h3 := h b (by simp)
    simp only [eff, h1, h2, h3]
  case build t parts =>
    have hp : (parts.toList.map fun p => (p.1, ρ p.2)) = parts.toList.map fun p => (p.1, ρ' p.2) := List.map_congr_left fun p hp => by
      rw [h p.2 (by simp; exact ⟨p.1, by simpa using hp⟩)]
    simp only [eff, hp]
  case buildSlice t len parts =>
    have hp : (parts.toList.map fun p => (p.1, ρ p.2)) = parts.toList.map fun p => (p.1, ρ' p.2) := List.map_congr_left fun p hp => by
      rw [h p.2 (by simp; exact ⟨p.1, by simpa using hp⟩)]
    simp only [eff, hp]
  case store t a v =>
    have h1 := h a (by simp); have h2 := h v (by simp)
    simp only [eff, h1, h2]
  case binOp op t a v ty =>
    have h1 := h a (by simp); have h2 := h v (by simp)
    simp only [eff, h1, h2]
  case indexAddr t a v =>
    have h1 := h a (by simp); have h2 := h v (by simp)
    simp only [eff, h1, h2]
  case makeSlice t a v =>
    have h1 := h a (by simp); have h2 := h v (by simp)
    simp only [eff, h1, h2]
  case index t a v =>
    have h1 := h a (by simp); have h2 := h v (by simp)
    simp only [eff, h1, h2]
  case makeFunc fn first captured =>
    have h1 : first.toList.map ρ = first.toList.map ρ' := map_congr_ops fun x hx => h x (by have hx' := Array.mem_toList_iff.1 hx; simp [hx'])
    have h2 : captured.toList.map ρ = captured.toList.map ρ' := map_congr_ops fun x hx => h x (by have hx' := Array.mem_toList_iff.1 hx; simp [hx'])
    simp only [eff, h1, h2]
  case call c =>
    obtain ⟨callee, args, ts⟩ := c
    have h1 : args.toList.map ρ = args.toList.map ρ' := map_congr_ops fun x hx => h x (by have hx' := Array.mem_toList_iff.1 hx; simp [hx'])
    cases callee with
    | value f =>
      have h2 := h f (by simp)
      simp only [eff, h1, h2]
    | invoke r m => rfl
    | builtin b => simp only [eff, h1]
  case makeMap t r => cases r <;> rfl
  case slice t x lo hi mx =>
    have h1 := h x (by simp)
    have h2 : lo.map ρ = lo.map ρ' := by
      cases lo with
      | none => rfl
      | some y => simp only [Option.map_some]; rw [h y (by simp)]
    have h3 : hi.map ρ = hi.map ρ' := by
      cases hi with
      | none => rfl
      | some y => simp only [Option.map_some]; rw [h y (by simp)]
    simp only [eff, h1, h2, h3]
  case lookup t m k ok =>
    have h1 := h m (by simp); have h2 := h k (by simp)
    simp only [eff, h1, h2]
  case mapEntry t m k =>
    have h1 := h m (by simp); have h2 := h k (by simp)
    simp only [eff, h1, h2]
  case entryStore t m k x =>
    have h1 := h m (by simp); have h2 := h k (by simp); have h3 := h x (by simp)
    simp only [eff, h1, h2, h3]
  case mapUpdate t m k x =>
    have h1 := h m (by simp); have h2 := h k (by simp); have h3 := h x (by simp)
    simp only [eff, h1, h2, h3]
  case typeAssert x t u ok =>
    have h1 := h x (by simp)
    cases ok <;> simp only [eff, h1]
  case defer c =>
    obtain ⟨callee, args, ts⟩ := c
    have h1 : args.toList.map ρ = args.toList.map ρ' := map_congr_ops fun x hx => h x (by have hx' := Array.mem_toList_iff.1 hx; simp [hx'])
    cases callee with
    | value f =>
      have h2 := h f (by simp)
      simp only [eff, h1, h2]
    | invoke r m => rfl
    | builtin b => rfl
end

section
variable {P : Program} {pu : List (Nat × PureT)} {nx : Nat}

theorem arr_of {hp hp' : Heap} {id : Nat} {A : Arr} (h : info hp' id 0 = info hp id 0) (h1 : hp id = some (.arr A)) : hp' id = some (.arr A) := by
  simp only [info, h1, Option.map_some] at h
  cases hb : hp' id with
  | none => simp [hb] at h
  | some b' =>
    cases b' <;> simp only [hb, Option.map_some, Option.some.injEq, Sum.inr.injEq, Sum.inl.injEq, reduceCtorEq] at h
    rw [h]
theorem mp_of {hp hp' : Heap} {id : Nat} {M : Mp} (h : info hp' id 0 = info hp id 0) (h1 : hp id = some (.mp M)) : hp' id = some (.mp M) := by
  simp only [info, h1, Option.map_some] at h
  cases hb : hp' id with
  | none => simp [hb] at h
  | some b' =>
    cases b' <;> simp only [hb, Option.map_some, Option.some.injEq, Sum.inr.injEq, reduceCtorEq] at h
    rw [h]
theorem cells_of {hp hp' : Heap} {id lo hi : Nat} {b : Blk} (hm : ∀ c, lo ≤ c → c < hi → info hp' id c = info hp id c) (hlt : lo < hi) (h1 : hp id = some (.blk b)) : ∃ b', hp' id = some (.blk b') ∧ b'.cs.length = b.cs.length ∧ ∀ c, lo ≤ c → c < hi → b'.cs[c]? = b.cs[c]? := by
  have hget : ∀ c, lo ≤ c → c < hi → ∃ b', hp' id = some (.blk b') ∧ b'.cs.length = b.cs.length ∧ b'.cs[c]? = b.cs[c]? := by
    intro c hc1 hc2
    have := hm c hc1 hc2
    simp only [info, h1, Option.map_some] at this
    cases hb : hp' id with
    | none => simp [hb] at this
    | some b' =>
      cases b' <;> simp only [hb, Option.map_some, Option.some.injEq, Sum.inl.injEq, Prod.mk.injEq, reduceCtorEq] at this
      exact ⟨_, rfl, this.2.1, this.2.2⟩
  obtain ⟨b', k1, k2, _⟩ := hget lo (Nat.le_refl _) hlt
  refine ⟨b', k1, k2, fun c h1 h2 => ?_⟩
  obtain ⟨b2, m1, _, m3⟩ := hget c h1 h2
  rw [k1] at m1; cases m1
  exact m3
theorem take_of {b b' : List AV} {lo n : Nat} (h : ∀ c, lo ≤ c → c < lo + n → b'[c]? = b[c]?) : (b'.drop lo).take n = (b.drop lo).take n := by
  apply List.ext_getElem?
  intro j
  rw [List.getElem?_take, List.getElem?_take]
  split
  · rename_i hj
    rw [List.getElem?_drop, List.getElem?_drop]
    exact h (lo + j) (by omega) (by omega)
  · rfl
/-- what a view looks at -/
theorem view1_cases {hp : Heap} : ∀ {vs : List Vw} {xs ys : List AV} {m : Option (Nat × Nat × Nat)}, view1 hp vs xs = some (ys, m) →
    (m = none ∧ ys = xs ∧ ∀ hp', view1 hp' vs xs = some (ys, none)) ∨ ∃ id lo hi b, m = some (id, lo, hi) ∧ lo < hi ∧ hi ≤ b.cs.length ∧ hp id = some (.blk b) ∧ ∀ hp' b', hp' id = some (.blk b') → b'.cs.length = b.cs.length → (b'.cs.drop lo).take (hi - lo) = (b.cs.drop lo).take (hi - lo) → view1 hp' vs xs = some (ys, m)
  | [], xs, ys, m, h => by
    simp only [view1, Option.some.injEq, Prod.mk.injEq] at h
    obtain ⟨rfl, rfl⟩ := h
    exact .inl ⟨rfl, rfl, fun _ => rfl⟩
  | v :: vs, [], ys, m, h => by
    have he : ∀ hp' : Heap, view1 hp' (v :: vs) [] = some ([], none) := fun hp' => by rcases v with (_ | _) | _ <;> rfl
    rw [he] at h
    simp only [Option.some.injEq, Prod.mk.injEq] at h
    obtain ⟨rfl, rfl⟩ := h
    exact .inl ⟨rfl, rfl, he⟩
  | .cl _ :: vs, x :: xs, ys, m, h => by
    simp only [view1] at h
    split at h <;> try (cases h; done)
    rename_i ys' m' h'
    simp only [Option.some.injEq, Prod.mk.injEq] at h
    obtain ⟨rfl, rfl⟩ := h
    rcases view1_cases h' with ⟨rfl, rfl, k⟩ | ⟨id, lo, hi, b, e1, e2, e3, e4, e5⟩
    · exact .inl ⟨rfl, rfl, fun hp' => by simp only [view1, k hp']⟩
    · exact .inr ⟨id, lo, hi, b, e1, e2, e3, e4, fun hp' b' f1 f2 f3 => by simp only [view1, e5 hp' b' f1 f2 f3]⟩
  | .one none :: vs, x :: xs, ys, m, h => by
    simp only [view1] at h
    split at h <;> try (cases h; done)
    rename_i ys' m' h'
    simp only [Option.some.injEq, Prod.mk.injEq] at h
    obtain ⟨rfl, rfl⟩ := h
    rcases view1_cases h' with ⟨rfl, rfl, k⟩ | ⟨id, lo, hi, b, e1, e2, e3, e4, e5⟩
    · exact .inl ⟨rfl, rfl, fun hp' => by simp only [view1, k hp']⟩
    · exact .inr ⟨id, lo, hi, b, e1, e2, e3, e4, fun hp' b' f1 f2 f3 => by simp only [view1, e5 hp' b' f1 f2 f3]⟩
  | .one (some (c, o)) :: vs, x :: xs, ys, m, h => by
    have pass : ∀ (hx : ∀ hp', view1 hp' (.one (some (c, o)) :: vs) (x :: xs) = match view1 hp' vs xs with | some (ys, m) => some (x :: ys, m) | none => none),
        (m = none ∧ ys = x :: xs ∧ ∀ hp', view1 hp' (.one (some (c, o)) :: vs) (x :: xs) = some (ys, none)) ∨ ∃ id lo hi b, m = some (id, lo, hi) ∧ lo < hi ∧ hi ≤ b.cs.length ∧ hp id = some (.blk b) ∧ ∀ hp' b', hp' id = some (.blk b') → b'.cs.length = b.cs.length → (b'.cs.drop lo).take (hi - lo) = (b.cs.drop lo).take (hi - lo) → view1 hp' (.one (some (c, o)) :: vs) (x :: xs) = some (ys, m) := by
      intro hx
      rw [hx] at h
      split at h <;> try (cases h; done)
      rename_i ys' m' h'
      simp only [Option.some.injEq, Prod.mk.injEq] at h
      obtain ⟨rfl, rfl⟩ := h
      rcases view1_cases h' with ⟨rfl, rfl, k⟩ | ⟨id, lo, hi, b, e1, e2, e3, e4, e5⟩
      · exact .inl ⟨rfl, rfl, fun hp' => by rw [hx, k hp']⟩
      · exact .inr ⟨id, lo, hi, b, e1, e2, e3, e4, fun hp' b' f1 f2 f3 => by rw [hx, e5 hp' b' f1 f2 f3]⟩
    cases x with
    | ptr id row st col =>
      simp only [view1] at h
      split at h <;> try (cases h; done)
      rename_i b ys' hb h'
      cases hl : (Nat.ble 1 c.size && (Nat.ble o (row * st + col) && Nat.ble (row * st + col - o + c.size) (lenA b.cs))) with
      | false => rw [hl] at h; cases h
      | true =>
        rw [hl, cond_true] at h
        have hl' := hl
        simp only [Bool.and_eq_true, Nat.ble_eq, lenA_eq] at hl'
        split at h <;> try (cases h; done)
        rename_i y hy
        simp only [Option.some.injEq, Prod.mk.injEq] at h
        obtain ⟨rfl, rfl⟩ := h
        refine .inr ⟨id, _, _, b, rfl, by omega, hl'.2.2, hb, fun hp' b' f1 f2 f3 => ?_⟩
        have hw : view1 hp' vs xs = some (ys', none) := by
          rcases view1_cases h' with ⟨_, _, k⟩ | ⟨_, _, _, _, e1, _⟩
          · exact k hp'
          · cases e1
        rw [show row * st + col - o + c.size - (row * st + col - o) = c.size by omega] at f3
        simp only [takeA_eq, dropA_eq, lenA_eq] at hy hl ⊢
        simp only [view1, f1, hw, takeA_eq, dropA_eq, lenA_eq, f2, hl, cond_true, f3, hy]
    | _ => exact pass (fun _ => rfl)
theorem effIt_transport {id0 : Nat} {s s' : St} {it : It} (hm : match it.mem with
      | .ld id lo hi => ∀ c, lo ≤ c → c < hi → info s'.hp id c = info s.hp id c
      | .lp id lo hi _ _ => ∀ c, lo ≤ c → c < hi → info s'.hp id c = info s.hp id c
      | .st id lo vs => ∀ c, lo ≤ c → c < lo + vs.length → info s'.hp id c = info s.hp id c
      | .la id => info s'.hp id 0 = info s.hp id 0
      | .sa id _ => info s'.hp id 0 = info s.hp id 0
      | .sm id _ => info s'.hp id 0 = info s.hp id 0
      | _ => True) : ∀ (e : Eff), EffIt pu id0 s it e → EffIt pu id0 s' it e
  | .val x, h => h
  | .load id row st col n agg, h => by
    simp only [EffIt] at h ⊢
    rcases h with ⟨b, h1, h2, h3, h4, h5⟩ | ⟨A, h1, h2⟩
    case inr =>
      rw [h2.2.2.2.1] at hm
      exact .inr ⟨A, arr_of hm h1, h2⟩
    left
    rw [h4] at hm
    simp only at hm
    have hget : ∀ c, row * st + col ≤ c → c < row * st + col + n → ∃ b', s'.hp id = some (.blk b') ∧ b'.cs.length = b.cs.length ∧ b'.cs[c]? = b.cs[c]? := by
      intro c hc1 hc2
      have := hm c hc1 hc2
      simp only [info, h1, Option.map_some] at this
      cases hb : s'.hp id with
      | none => simp [hb] at this
      | some b' =>
        cases b' <;> simp only [hb, Option.map_some, Option.some.injEq, Sum.inl.injEq, Prod.mk.injEq, reduceCtorEq] at this
        exact ⟨_, rfl, this.2.1, this.2.2⟩
    obtain ⟨b', k1, k2, k3⟩ := hget (row * st + col) (Nat.le_refl _) (by omega)
    refine ⟨b', k1, h2, by omega, h4, ?_⟩
    cases agg with
    | true =>
      simp only [if_true] at h5 ⊢
      rw [h5]
      congr 1
      apply List.ext_getElem?
      intro j
      rw [List.getElem?_take, List.getElem?_take]
      split
      · rename_i hj
        rw [List.getElem?_drop, List.getElem?_drop]
        obtain ⟨b2, m1, m2, m3⟩ := hget (row * st + col + j) (by omega) (by omega)
        rw [k1] at m1; cases m1
        exact m3.symm
      · rfl
    | false =>
      simp only [Bool.false_eq_true, if_false] at h5 ⊢
      rw [k3, h5]
  | .store id row st col vs, h => by
    simp only [EffIt] at h ⊢
    rcases h with ⟨b, h1, h3, h4, h5, h6⟩ | ⟨A, x, h1, h2⟩
    case inr =>
      rw [h2.2.2.2.2.1] at hm
      exact .inr ⟨A, x, arr_of hm h1, h2⟩
    left
    rw [h5] at hm
    simp only at hm
    have := hm (row * st + col) (Nat.le_refl _) (by omega)
    simp only [info, h1, Option.map_some] at this
    cases hb : s'.hp id with
    | none => simp [hb] at this
    | some b' =>
      cases b' <;> simp only [hb, Option.map_some, Option.some.injEq, Sum.inl.injEq, Prod.mk.injEq, reduceCtorEq] at this
      exact ⟨_, rfl, h3, by rw [this.2.1]; exact h4, h5, h6⟩
  | .alloc b mk, h => h
  | .idx id st n, h => by
    simp only [EffIt] at h ⊢
    obtain ⟨A, h1, h2⟩ := h
    rw [h2.2.2.2.1] at hm
    exact ⟨A, arr_of hm h1, h2⟩
  | .win id st l h', h => by
    simp only [EffIt] at h ⊢
    obtain ⟨A, h1, h2⟩ := h
    rw [h2.2.1] at hm
    exact ⟨A, arr_of hm h1, h2⟩
  | .copy .., h => h
  | .len id, h => by
    simp only [EffIt] at h ⊢
    obtain ⟨A, h1, h2⟩ := h
    rw [h2.1] at hm
    exact ⟨A, arr_of hm h1, h2⟩
  | .call f args, h => by
    simp only [EffIt] at h ⊢
    obtain ⟨g, x, ys, m, c, h1, h2, h3, h4, h5, h6⟩ := h
    refine ⟨g, x, ys, m, c, h1, h2, ?_, h4, h5, h6⟩
    rcases view1_cases h3 with ⟨rfl, rfl, k⟩ | ⟨id, lo, hi, b, rfl, e2, e3, e4, e5⟩
    · exact k _
    · have hm' : ∀ c, lo ≤ c → c < hi → info s'.hp id c = info s.hp id c := by
        rcases h6 with ⟨_, _, h6⟩ | ⟨p, _, h6⟩
        · rw [h6] at hm
          simpa only [lookMem] using hm
        · rw [h6] at hm
          simpa only [lookPan] using hm
      obtain ⟨b', k1, k2, k3⟩ := cells_of hm' e2 e4
      exact e5 _ b' k1 k2 (take_of fun c hc1 hc2 => k3 c hc1 (by omega))
  | .mapGet id kc vc z k ok, h => by
    simp only [EffIt] at h ⊢
    obtain ⟨M, j, z', h1, h2, h3, h4, h5⟩ := h
    rw [h4] at hm
    exact ⟨M, j, z', mp_of hm h1, h2, h3, h4, h5⟩
  | .mapSet id kc vc k x, h => by
    simp only [EffIt] at h ⊢
    obtain ⟨M, j, z', h1, h2, h3, h4, h5⟩ := h
    rw [h4] at hm
    exact ⟨M, j, z', mp_of hm h1, h2, h3, h4, h5⟩
  | .test c e, h => by
    simp only [EffIt] at h ⊢
    exact ⟨h.1, effIt_transport hm e h.2⟩
  | .alt c a b, h => by
    simp only [EffIt] at h ⊢
    exact h.imp (fun h => ⟨h.1, effIt_transport hm a h.2⟩) fun h => ⟨h.1, effIt_transport hm b h.2⟩
  | .list .., h => h
  | .listz .., h => h
  | .app .., h => h
  | .round .., h => h
  | .dfr _, h => h
  | .panic _, h => h
  | .mapNew .., h => h
  | .mapDel .., h => h
  | .mapClr .., h => h
  | .mapEnt .., h => h
  | .entSet .., h => h
  | .iter _, h => h
  | .nxt _, h => h
  | .trunc .., h => h
  | .bad, h => h

theorem item_transport {ops : Array Oper} {id0 i : Nat} {it : It} {s s' : St} (h : ItemOk pu id0 P ops i it s) (hn : s'.n = s.n) (ht : ∀ o, ops[i]? = some o → ∀ t ∈ looks ops o, s'.tm t = s.tm t)
    (hm : match it.mem with
      | .ld id lo hi => ∀ c, lo ≤ c → c < hi → info s'.hp id c = info s.hp id c
      | .lp id lo hi _ _ => ∀ c, lo ≤ c → c < hi → info s'.hp id c = info s.hp id c
      | .st id lo vs => ∀ c, lo ≤ c → c < lo + vs.length → info s'.hp id c = info s.hp id c
      | .la id => info s'.hp id 0 = info s.hp id 0
      | .sa id _ => info s'.hp id 0 = info s.hp id 0
      | .sm id _ => info s'.hp id 0 = info s.hp id 0
      | _ => True) : ItemOk pu id0 P ops i it s' := by
  obtain ⟨o, h1, h2, h3, h4⟩ := h
  have ht' := ht o h1
  have hev : ∀ x ∈ o.op.operands, s'.eval x = s.eval x := by
    intro x hx
    cases x with
    | tmp t => exact ht' t (by simp only [looks, List.mem_append, List.mem_filterMap]; exact .inl ⟨.tmp t, Array.mem_toList_iff.2 hx, rfl⟩)
    | _ => rfl
  have hgd : ∀ j want d, o.guard = some (j, want) → (ops[j]?).bind (·.dst) = some d → s'.tm d = s.tm d := by
    intro j want d hg hd
    exact ht' d (by simp only [looks, hg, hd, List.mem_append]; exact .inr (by simp))
  refine ⟨o, h1, h2, by rw [hn]; exact h3, ?_⟩
  rcases h4 with ⟨hr, he⟩ | ⟨hs, hres, hmem⟩
  · left
    refine ⟨?_, ?_⟩
    · unfold Runs at hr ⊢
      cases hg : o.guard with
      | none => trivial
      | some g =>
        obtain ⟨j, want⟩ := g
        rw [hg] at hr
        obtain ⟨d, k1, k2, k3⟩ := hr
        exact ⟨d, k1, by rw [hn]; exact k2, by rw [hgd j want d hg k1]; exact k3⟩
    · rw [eff_congr (P := P) o.op hev]
      exact effIt_transport hm _ he
  · right
    refine ⟨?_, hres, hmem⟩
    obtain ⟨j, want, d, k1, k2, k3, k4⟩ := hs
    refine ⟨j, want, d, k1, k2, by rw [hn]; exact k3, ?_⟩
    rw [hgd j want d k1 k2]; exact k4

/-- a new block at a number that is free -/
theorem HRel.allocAt {B : Nat} {σ : Env} {hp : Heap} {m : Nat} {w : World} (h : HRel B σ hp m w) (hB : B ≤ w.heap.size) {id : Nat} (hf : Free σ id) (hlt : id < m) {b : Blk} {us : List Value} (hu : RepL σ b.cs us) :
    ∃ τ, Ext σ τ ∧ (∀ j, j ≠ id → τ j = σ j ∧ τ.sv j = σ.sv j) ∧ τ id = some w.heap.size ∧ HRel B τ (upd hp id (some (.blk b))) m (w.alloc (.cells us.toArray b.ty)) := by
  have he : Ext σ { σ with at_ := upd σ.at_ id (some w.heap.size) } := ⟨fun i n hi => by
    show upd σ.at_ id _ i = _
    rw [upd_other _ _ (fun e => by rw [e, hf.at_] at hi; cases hi)]; exact hi, fun _ _ _ h => h, fun _ _ h => h, rfl, rfl, rfl, rfl, rfl⟩
  have hs : (w.alloc (.cells us.toArray b.ty)).heap.size = w.heap.size + 1 := by simp
  refine ⟨_, he, fun j hj => ⟨upd_other _ _ hj, rfl⟩, upd_same _ _ _, ?_⟩
  refine h.putOb he rfl (fun _ _ h => h) hlt (Nat.le_refl _) (fun j hj => upd_other _ _ hj) (fun _ _ => rfl) (by omega) ?_ ?_ ?_ ?_ ?_ (Free.rsv hf.dd hf.ds h.rs (Nat.le_refl _) rfl rfl (fun j hj => upd_other _ _ hj) (fun _ _ => rfl))
  · intro j n _ _ hn; exact Below.heap_alloc _ _ _ (h.bound j n hn)
  · intro n oo v hv; exact Below.heap_alloc _ _ _ (mem_old h.mem hv)
  · intro n hn; exact Below.heap_alloc _ _ _ (kp_lt h.kp hn)
  · exact ⟨w.heap.size, us, upd_same _ _ _, by show (w.heap.push _)[w.heap.size]? = _; simp, hu.mono he, hB⟩
  · intro n hn
    have : n = w.heap.size := by
      have e : upd σ.at_ id (some w.heap.size) id = some w.heap.size := upd_same _ _ _
      have hn' : upd σ.at_ id (some w.heap.size) id = some n := hn
      rw [e] at hn'; cases hn'; rfl
    subst this
    refine ⟨by omega, fun j _ _ hj => ?_, mem_new h.mem (Nat.le_refl _), kp_new h.kp (Nat.le_refl _)⟩
    exact absurd (h.bound j _ hj) (Nat.lt_irrefl _)

/-- a new object at a number that is free -/
theorem HRel.addAt {B : Nat} {σ : Env} {hp : Heap} {m : Nat} {w : World} (h : HRel B σ hp m w) {id : Nat} (hf : Free σ id) (hlt : id < m) {obj : Obj} {o : Ob} {sv : Option Value}
    (hob : ∀ τ, Ext σ τ → τ.mem = σ.mem → τ id = some w.heap.size → τ.sv id = sv → ObRel B τ (w.alloc obj) id o) :
    ∃ τ, Ext σ τ ∧ (∀ j, j ≠ id → τ j = σ j ∧ τ.sv j = σ.sv j) ∧ τ id = some w.heap.size ∧ τ.sv id = sv ∧ HRel B τ (upd hp id (some o)) m (w.alloc obj) := by
  have he : Ext σ (σ.add id (some w.heap.size) sv) := Env.add_ext hf.at_ hf.sv
  have hs : (w.alloc obj).heap.size = w.heap.size + 1 := by simp
  refine ⟨_, he, fun j hj => ⟨upd_other _ _ hj, upd_other _ _ hj⟩, upd_same _ _ _, upd_same _ _ _, ?_⟩
  refine h.putOb he rfl (fun _ _ h => h) hlt (Nat.le_refl _) (fun j hj => upd_other _ _ hj) (fun j hj => upd_other _ _ hj) (by omega) ?_ ?_ ?_ (hob _ he rfl (upd_same _ _ _) (upd_same _ _ _)) ?_ (Free.rsv hf.dd hf.ds h.rs (Nat.le_refl _) rfl rfl (fun j hj => upd_other _ _ hj) (fun j hj => upd_other _ _ hj))
  · intro j n _ _ hn; exact Below.heap_alloc _ _ _ (h.bound j n hn)
  · intro n oo v hv; exact Below.heap_alloc _ _ _ (mem_old h.mem hv)
  · intro n hn; exact Below.heap_alloc _ _ _ (kp_lt h.kp hn)
  · intro n hn
    have : n = w.heap.size := by
      have e : (σ.add id (some w.heap.size) sv) id = some w.heap.size := upd_same _ _ _
      rw [e] at hn; cases hn; rfl
    subst this
    refine ⟨by omega, fun j _ _ hj => ?_, mem_new h.mem (Nat.le_refl _), kp_new h.kp (Nat.le_refl _)⟩
    exact absurd (h.bound j _ hj) (Nat.lt_irrefl _)

theorem view1_rep {B : Nat} {σ : Env} {hp : Heap} {nx : Nat} {w : World} (h : HRel B σ hp nx w) {vs : List Vw} {xs ys : List AV} {m : Option (Nat × Nat × Nat)} {us : List Value} (hu : RepL σ xs us) (hv : view1 hp vs xs = some (ys, m)) : ∃ ids, RepL { σ with mem := frozen σ hp ids w } ys us := by
  have key : ∀ (ids : List Nat), (∀ id lo hi, m = some (id, lo, hi) → id ∈ ids) → RepL { σ with mem := frozen σ hp ids w } ys us := by
    intro ids
    have hext : Ext σ { σ with mem := frozen σ hp ids w } := ⟨fun _ _ h => h, frozen_ge h ids, fun _ _ h => h, rfl, rfl, rfl, rfl, rfl⟩
    induction vs generalizing xs ys us m with
    | nil =>
      intro _
      simp only [view1, Option.some.injEq, Prod.mk.injEq] at hv
      obtain ⟨rfl, _⟩ := hv
      exact hu.mono hext
    | cons v vs ih =>
      intro hm
      cases xs with
      | nil =>
        have he : view1 hp (v :: vs) [] = some ([], none) := by rcases v with (_ | _) | _ <;> rfl
        rw [he] at hv
        simp only [Option.some.injEq, Prod.mk.injEq] at hv
        obtain ⟨rfl, _⟩ := hv
        exact hu.mono hext
      | cons x xs =>
        simp only [RepL] at hu
        obtain ⟨u, us', rfl, k1, k2⟩ := hu
        have pass : ∀ {ys' m'}, view1 hp vs xs = some (ys', m') → ys = x :: ys' → m = m' → RepL { σ with mem := frozen σ hp ids w } ys (u :: us') := by
          intro ys' m' e1 e2 e3
          subst e2; subst e3
          simp only [RepL]
          exact ⟨u, us', rfl, k1.mono hext, ih k2 e1 hm⟩
        rcases v with (_ | ⟨c, o⟩) | cvs
        · simp only [view1] at hv
          split at hv <;> try (cases hv; done)
          rename_i ys' m' h'
          simp only [Option.some.injEq, Prod.mk.injEq] at hv
          exact pass h' hv.1.symm hv.2.symm
        rotate_left
        · simp only [view1] at hv
          split at hv <;> try (cases hv; done)
          rename_i ys' m' h'
          simp only [Option.some.injEq, Prod.mk.injEq] at hv
          exact pass h' hv.1.symm hv.2.symm
        · skip
          cases x with
          | ptr id row st col =>
            simp only [view1] at hv
            split at hv <;> try (cases hv; done)
            rename_i b ys' hb h'
            cases hl : (Nat.ble 1 c.size && (Nat.ble o (row * st + col) && Nat.ble (row * st + col - o + c.size) (lenA b.cs))) with
            | false => rw [hl] at hv; cases hv
            | true =>
              rw [hl, cond_true] at hv
              simp only [Bool.and_eq_true, Nat.ble_eq, lenA_eq] at hl
              split at hv <;> try (cases hv; done)
              rename_i y hy
              simp only [Option.some.injEq, Prod.mk.injEq] at hv
              obtain ⟨rfl, rfl⟩ := hv
              simp only [RepL]
              refine ⟨u, us', rfl, ?_, ih k2 h' (by simp)⟩
              obtain ⟨n, vs', h1, h2, h3, h4⟩ := h.ob id _ hb
              simp only [Rep] at k1
              obtain ⟨n', hn', rfl⟩ := k1
              rw [h1] at hn'; cases hn'
              simp only [takeA_eq, dropA_eq] at hy
              have hro := ((h3.drop (row * st + col - o)).take c.size).mono hext
              have hd := dec_all hy hro
              simp only [Rep]
              refine ⟨n, row * st + col - o, _, ?_, fun j u hju => ?_, hd⟩
              · rw [show row * st + col - o + o = row * st + col by omega]
              · show frozen σ hp ids w n (row * st + col - o + j) = some u
                unfold frozen
                rw [if_pos ⟨id, hm _ _ _ rfl, by rw [hb]; simp, h1⟩, cell_of_row w n _ vs'.toArray b.ty (0, 0) h2]
                rw [List.getElem?_take] at hju
                split at hju
                · rw [List.getElem?_drop] at hju; simpa using hju
                · simp at hju
          | _ =>
            simp only [view1] at hv
            split at hv <;> try (cases hv; done)
            rename_i ys' m' h'
            simp only [Option.some.injEq, Prod.mk.injEq] at hv
            exact pass h' hv.1.symm hv.2.symm
  cases m with
  | none => exact ⟨[], key [] (by simp)⟩
  | some x => exact ⟨[x.1], key [x.1] (by rintro id lo hi e; cases e; simp)⟩
/-- what is owed for a function that panics where its condition fails -/
def PanOk (P : Program) (f : FuncId) (g : PureT) : Prop :=
  ∀ p, g.pv = some p → ∀ (σ : Env) (w : World) (xs : List AV) (us : List Value) (x : AV), (∀ i n, σ i = some n → n < w.heap.size) → MemOk σ.mem w → RepL σ xs us → g.run xs = some (false, x) →
    inK p.2.1 p.2.2 ∧ Calls' P f us.toArray w fun e w' => e = .panicked [{ v := .iface p.1 (.int p.2.1 p.2.2), recovered := false }] ∧ Below w.heap.size w w'
theorem panOk_none {P : Program} {f : FuncId} {g : PureT} (h : g.pv = none) : PanOk P f g := fun p hp => by rw [h] at hp; cases hp
theorem pvA_rep {σ : Env} {p : TypeId × IntKind × Int} (h : inK p.2.1 p.2.2) : Rep σ (pvA p) (.iface p.1 (.int p.2.1 p.2.2)) := by simp only [pvA, Rep]; exact ⟨_, ⟨rfl, h⟩, rfl⟩
def PuOk (P : Program) (pu : List (Nat × PureT)) : Prop := ∀ p ∈ pu, Plain P p.1 ∧ PureOk P p.1 p.2 ∧ PanOk P p.1 p.2
/-- a condition of a call that may panic holds -/
def lpOk : Mem → Prop
  | .lp _ _ _ c _ => c = true
  | _ => True

/-- memory that can no more be turned has grown -/
theorem grown {w0 w w' : World} {σ : Env} {hp : Heap} {nx : Nat} {m' : Nat → Nat → Option Value} (hh : HRel w0.heap.size σ hp nx w) (hb : Below w0.heap.size w0 w) (m1 : MemOk m' w') (m2 : ∀ b o u, σ.mem b o = some u → m' b o = some u) (m3 : ∀ b o u, m' b o = some u → σ.mem b o = some u ∨ w.heap.size ≤ b) (m6 : Below w.heap.size w w') :
    Ext σ { σ with mem := m' } ∧ HRel w0.heap.size { σ with mem := m' } hp nx w' := by
  have he : Ext σ { σ with mem := m' } := ⟨fun _ _ h => h, m2, fun _ _ h => h, rfl, rfl, rfl, rfl, rfl⟩
  have hb' := hh.below m6
  refine ⟨he, fun j o hj => (hb'.ob j o hj).keep he rfl (fun _ _ => rfl), hh.inj, hh.fresh, hb'.bound, m1, fun i n hi hn o => ?_, fun b o v hv hlt => ?_, ⟨hb'.kp.sz, hb'.kp.ok, hb'.kp.sep, fun n o v hv => ?_⟩, hh.rs.ext (Nat.le_refl _) rfl rfl (fun _ _ h => h) (fun _ _ h => h)⟩
  · cases hc : m' n o with
    | none => exact hc
    | some u =>
      rcases m3 n o u hc with k | k
      · rw [hh.sep i n hi hn o] at k; cases k
      · have := hh.bound i n hn; omega
  · rcases m3 b o v hv with k | k
    · exact hh.low b o v k hlt
    · have := hb.size; omega
  · rcases m3 n o v hv with k | k
    · exact hh.kp.mem n o v k
    · exact kp_new hh.kp k
theorem effIt_step (hpu : PuOk P pu) {rd : Bool} {w0 : World} {σ : Env} {s : St} {a : Go.Act} {w : World} {o : Oper} {id0 : Nat} {it : It} {next : Go.Act → World → Prop} {Q : Exit → Go.Act → World → Prop} {r : Result Next}
    (hS : Sat rd w0 σ s a w) (hfree : Free σ id0) (hid : id0 < s.nx) (hdst : it.dst = o.dst) (hd : o.dst.getD 0 < s.n)
    (hP : ∀ w' (p : TypeId × IntKind × Int), (∃ id lo hi, it.mem = .lp id lo hi false p) → inK p.2.1 p.2.2 → Sat rd w0 σ s a w' → Q (.panic [{ v := .iface p.1 (.int p.2.1 p.2.2), recovered := false }]) a w')
    (hK' : ∀ τ a' w', Ext σ τ → (∀ j, j ≠ id0 → τ j = σ j ∧ τ.sv j = σ.sv j) → lpOk it.mem → Sat rd w0 τ (it.app id0 s) a' w' → next a' w') : ∀ (e : Eff), AOk P σ w r e → EffIt pu id0 s it e → Oper.uponX P rd o a next Q r
  | .val x, he, h => by
    simp only [AOk] at he
    obtain ⟨v, rfl, hv⟩ := he
    simp only [EffIt] at h
    have hK := fun τ a' w' e1 e2 e3 => hK' τ a' w' e1 e2 (show lpOk it.mem by rw [h.2]; trivial) e3
    refine hK σ _ _ (Ext.refl _) (fun _ _ => ⟨rfl, rfl⟩) ?_
    have : it.app id0 s = s.put o.dst x := by simp only [It.app, h.2, Mem.app, h.1, hdst]
    rw [this]; exact hS.put hd hv
  | .load id row st col n agg, he, h => by
    simp only [AOk] at he
    obtain ⟨hn, he⟩ := he
    simp only [EffIt] at h
    rcases h with ⟨b, hb, h0, hl, hmem, hres⟩ | ⟨A, hA, hl1, hl2, hr', hmem, hres⟩
    case inr =>
      have hK := fun τ a' w' e1 e2 e3 => hK' τ a' w' e1 e2 (show lpOk it.mem by rw [hmem]; trivial) e3
      subst hl1
      obtain ⟨v, us, h1, h2, h3, h4, h5⟩ := hS.h.ob id _ hA
      rcases h2.2 with ⟨_, k⟩ | ⟨g, cap, cur, rfl, k2, k3, k4, k5, k6, k7⟩
      · omega
      have hg := (h5 g).1 rfl
      have hul := LR.len (fun x vs => RepD.len A.c x vs) h3
      have hrow : (row + 1) * A.c.size ≤ A.xs.length * A.c.size := Nat.mul_le_mul_right _ hr'
      rw [Nat.add_mul, Nat.one_mul] at hrow
      have hcl : cur.toList.length = cap * A.c.size := by simpa using k6
      have hxc : A.xs.length * A.c.size ≤ cap * A.c.size := Nat.mul_le_mul_right _ k4
      have hrun := he g A.ty cur.toList hg (by simpa using k3) (by omega)
      have hel := LR.get (fun x vs => RepD.len A.c x vs) row (dflt A.c) h3 hr'
      have hcells : (us.drop (row * A.c.size)).take A.c.size = (cur.toList.drop (row * A.c.size)).take A.c.size := by
        rw [← k7, List.drop_take, List.take_take]
        congr 1; omega
      rw [hcells] at hel
      have hrep := enc_rep (σ := σ) _ _ _ hel
      have hdrop : ((cur.toList.drop (row * A.c.size)).take A.c.size).drop col = (cur.toList.drop (row * A.c.size + col)).take (A.c.size - col) := by
        rw [List.drop_take, List.drop_drop]
      rw [hrun]
      refine hK σ _ _ (Ext.refl _) (fun _ _ => ⟨rfl, rfl⟩) ?_
      have : it.app id0 s = s.put o.dst it.res := by simp only [It.app, hmem, Mem.app, hdst]
      rw [this]
      refine hS.put hd ?_
      cases agg with
      | true =>
        simp only [if_true] at hres ⊢
        rw [hres]; simp only [Rep]
        refine ⟨_, (hrep.drop col).take n, ?_⟩
        rw [hdrop, List.take_take, Nat.min_eq_left (by omega)]
      | false =>
        simp only [Bool.false_eq_true, if_false] at hres ⊢
        obtain ⟨v, hv, hr2⟩ := hrep.get hres
        have hv' : cur.toList[row * A.c.size + col]? = some v := by
          rw [List.getElem?_take] at hv
          split at hv
          · rwa [List.getElem?_drop] at hv
          · cases hv
        simp only [List.getD, hv', Option.getD_some]
        exact hr2
    have hK := fun τ a' w' e1 e2 e3 => hK' τ a' w' e1 e2 (show lpOk it.mem by rw [hmem]; trivial) e3
    obtain ⟨m, vs, h1, h2, h3, h4⟩ := hS.h.ob id _ hb
    rw [he m b.ty vs h1 h2 (by rw [← h3.length]; exact hl)]
    refine hK σ _ _ (Ext.refl _) (fun _ _ => ⟨rfl, rfl⟩) ?_
    have : it.app id0 s = s.put o.dst it.res := by simp only [It.app, hmem, Mem.app, hdst]
    rw [this]
    refine hS.put hd ?_
    cases agg with
    | true =>
      simp only [if_true] at hres ⊢
      rw [hres]; simp only [Rep]
      exact ⟨_, (h3.drop _).take _, rfl⟩
    | false =>
      simp only [Bool.false_eq_true, if_false] at hres ⊢
      obtain ⟨v, hv, hr⟩ := h3.get hres
      simp only [List.getD, hv, Option.getD_some]
      exact hr
  | .store id row st col xs, he, h => by
    simp only [AOk] at he
    obtain ⟨us, hu, he⟩ := he
    simp only [EffIt] at h
    rcases h with ⟨b, hb, h0, hl, hmem, hres⟩ | ⟨A, x, hA, hl1, hl2, hr', hx, hmem, hres⟩
    case inr =>
      have hK := fun τ a' w' e1 e2 e3 => hK' τ a' w' e1 e2 (show lpOk it.mem by rw [hmem]; trivial) e3
      subst hl1
      obtain ⟨v, vs, h1, h2, h3, h4, h5⟩ := hS.h.ob id _ hA
      rcases h2.2 with ⟨_, k⟩ | ⟨g, cap, cur, rfl, k2, k3, k4, k5, k6, k7⟩
      · omega
      have hg := (h5 g).1 rfl
      have hul := LR.len (fun x vs => RepD.len A.c x vs) h3
      have hrow : (row + 1) * A.c.size ≤ A.xs.length * A.c.size := Nat.mul_le_mul_right _ hr'
      rw [Nat.add_mul, Nat.one_mul] at hrow
      have hcl : cur.toList.length = cap * A.c.size := by simpa using k6
      have hxc : A.xs.length * A.c.size ≤ cap * A.c.size := Nat.mul_le_mul_right _ k4
      have hxl := hu.length
      have hrun := he g A.ty cur.toList hg (by simpa using k3) (by omega)
      have hel := LR.get (fun x vs => RepD.len A.c x vs) row (dflt A.c) h3 hr'
      have hrep := enc_rep (σ := σ) _ _ _ hel
      have hnew := dec_all hx (setsA_rep xs us col _ _ hrep hu)
      have hset := LR.set (fun x vs => RepD.len A.c x vs) row x h3 hnew hr'
      have hcells : (setsA cur.toList (row * A.c.size + col) us).take (A.xs.length * A.c.size) = setsA vs (row * A.c.size) (setsA ((vs.drop (row * A.c.size)).take A.c.size) col us) := by
        rw [setsA_take _ _ _ _ (by omega), k7]
        have hsplit : vs = vs.take (row * A.c.size) ++ ((vs.drop (row * A.c.size)).take A.c.size ++ vs.drop (row * A.c.size + A.c.size)) := by
          rw [← List.drop_drop, List.take_append_drop, List.take_append_drop]
        have hp1 : (vs.take (row * A.c.size)).length = row * A.c.size := by simp; omega
        have hp2 : ((vs.drop (row * A.c.size)).take A.c.size).length = A.c.size := by simp; omega
        generalize hA1 : vs.take (row * A.c.size) = p at hsplit hp1
        generalize hA2 : (vs.drop (row * A.c.size)).take A.c.size = q at hsplit hp2 ⊢
        generalize vs.drop (row * A.c.size + A.c.size) = t at hsplit
        rw [hsplit, show row * A.c.size + col = p.length + col by omega, setsA_past, show row * A.c.size = p.length + 0 by omega, setsA_past]
        congr 1
        rw [setsA_front _ q t (by rw [setsA_length]), setsA_in q t us col (by omega)]
      rw [hrun]
      have hob : ObRel w0.heap.size σ (w.setRow g (setsA cur.toList (row * A.c.size + col) us).toArray) id (.arr ⟨A.ty, A.c, setA A.xs row x⟩) := by
        refine ⟨_, _, h1, ?_, by rw [setA_eq]; exact hset, h4, h5⟩
        refine ⟨?_, .inr ⟨g, cap, _, ?_, k2, setRow_heap w g _ _ _ _ k3, by simpa [setA_eq] using k4, k5, by simp [setsA_length]; exact hcl, ?_⟩⟩
        · simp only [setA_eq, List.length_set, setsA_length]; exact h2.1
        · simp [setA_eq]
        · simp only [setA_eq, List.length_set]
          exact hcells
      have hh := hS.h.turn (by rw [hA]; simp) hg _ hob
      have hS' : Sat rd w0 σ { s with hp := upd s.hp id (some (.arr ⟨A.ty, A.c, setA A.xs row x⟩)) } a (w.setRow g (setsA cur.toList (row * A.c.size + col) us).toArray) := hS.mono (Ext.refl _) hh (below_setRow hS.bl k2 _)
      refine hK σ _ _ (Ext.refl _) (fun _ _ => ⟨rfl, rfl⟩) ?_
      have : it.app id0 s = ({ s with hp := upd s.hp id (some (.arr ⟨A.ty, A.c, setA A.xs row x⟩)) } : St).put o.dst (.val undef) := by
        simp only [It.app, hmem, Mem.app, hres, hdst]
      rw [this]
      exact hS'.put hd (by simp only [Rep])
    have hK := fun τ a' w' e1 e2 e3 => hK' τ a' w' e1 e2 (show lpOk it.mem by rw [hmem]; trivial) e3
    obtain ⟨m, vs, h1, h2, h3, h4⟩ := hS.h.ob id _ hb
    rw [he m b.ty vs h1 h2 (by rw [← h3.length, ← hu.length]; exact hl)]
    have hob : ObRel w0.heap.size σ (w.setRow m (setsA vs (row * st + col) us).toArray) id (.blk ⟨b.ty, setsA b.cs (row * st + col) xs⟩) :=
      ⟨m, _, h1, setRow_heap w m _ _ _ _ h2, setsA_rep _ _ (row * st + col) _ _ h3 hu, h4⟩
    have hh := hS.h.turn (by rw [hb]; simp) h1 _ hob
    have hS' : Sat rd w0 σ { s with hp := upd s.hp id (some (.blk ⟨b.ty, setsA b.cs (row * st + col) xs⟩)) } a (w.setRow m (setsA vs (row * st + col) us).toArray) :=
      hS.mono (Ext.refl _) hh (below_setRow hS.bl h4 _)
    refine hK σ _ _ (Ext.refl _) (fun _ _ => ⟨rfl, rfl⟩) ?_
    have : it.app id0 s = ({ s with hp := upd s.hp id (some (.blk ⟨b.ty, setsA b.cs (row * st + col) xs⟩)) } : St).put o.dst (.val undef) := by
      simp only [It.app, hmem, Mem.app, hb, hres, hdst]
    rw [this]
    exact hS'.put hd (by simp only [Rep])
  | .alloc b mk, he, h => by
    simp only [AOk] at he
    obtain ⟨us, v, hu, rfl, hv⟩ := he
    simp only [EffIt] at h
    have hK := fun τ a' w' e1 e2 e3 => hK' τ a' w' e1 e2 (show lpOk it.mem by rw [h.1]; trivial) e3
    obtain ⟨τ, e, hoth, hτ, hh⟩ := hS.h.allocAt hS.bl.size hfree hid hu
    have hS' : Sat rd w0 τ { s with hp := upd s.hp id0 (some (.blk b)) } a _ := hS.mono e hh (hS.bl.alloc hS.bl.size _)
    refine hK τ _ _ e hoth ?_
    have : it.app id0 s = ({ s with hp := upd s.hp id0 (some (.blk b)) } : St).put o.dst (mk id0) := by
      simp only [It.app, h.1, Mem.app, h.2, hdst]
    rw [this]
    exact hS'.put hd (hv τ id0 e hτ)
  | .idx id st n, he, h => by
    simp only [AOk] at he
    simp only [EffIt] at h
    obtain ⟨A, hA, hl1, hr1, hr2, hmem, hres⟩ := h
    have hK := fun τ a' w' e1 e2 e3 => hK' τ a' w' e1 e2 (show lpOk it.mem by rw [hmem]; trivial) e3
    subst hl1
    obtain ⟨v, us, h1, h2, h3, h4, h5⟩ := hS.h.ob id _ hA
    rcases h2.2 with ⟨_, k⟩ | ⟨g, cap, cur, rfl, k2, k3⟩
    · omega
    have hg := (h5 g).1 rfl
    rw [he g _ cap h1 hr1 hr2]
    refine hK σ _ _ (Ext.refl _) (fun _ _ => ⟨rfl, rfl⟩) ?_
    have : it.app id0 s = s.put o.dst (.ptr id n.toNat A.c.size 0) := by simp only [It.app, hmem, Mem.app, hres, hdst]
    rw [this]
    exact hS.put hd (by simp only [Rep]; exact ⟨g, hg, rfl⟩)
  | .win id st l h', he, h => by
    simp only [EffIt] at h
    obtain ⟨A, hA, hr, hmem, hres⟩ := h
    have hK := fun τ a' w' e1 e2 e3 => hK' τ a' w' e1 e2 (show lpOk it.mem by rw [hmem]; trivial) e3
    obtain ⟨v, hv1, hv2⟩ := win_val hS.h hA hr he
    rw [hv1]
    refine hK σ _ _ (Ext.refl _) (fun _ _ => ⟨rfl, rfl⟩) ?_
    have : it.app id0 s = s.put o.dst (.win id l.toNat st ((h'.getD A.xs.length).toNat - l.toNat)) := by simp only [It.app, hmem, Mem.app, hres, hdst]
    rw [this]
    exact hS.put hd hv2
  | .copy .., _, h => by simp [EffIt] at h
  | .len id, he, h => by
    simp only [AOk] at he
    simp only [EffIt] at h
    obtain ⟨A, hA, hmem, hres⟩ := h
    have hK := fun τ a' w' e1 e2 e3 => hK' τ a' w' e1 e2 (show lpOk it.mem by rw [hmem]; trivial) e3
    obtain ⟨v, us, h1, h2, h3, h4, h5⟩ := hS.h.ob id _ hA
    have : it.app id0 s = s.put o.dst (.int .i64 A.xs.length) := by simp only [It.app, hmem, Mem.app, hres, hdst]
    rcases h2.2 with ⟨rfl, k⟩ | ⟨g, cap, cur, rfl, k2, k3, k4, k5, _⟩
    · rw [he _ _ _ h1]
      refine hK σ _ _ (Ext.refl _) (fun _ _ => ⟨rfl, rfl⟩) ?_
      rw [this, k]
      exact hS.put hd (rep_int ⟨by simp [minK], by simp [maxK]⟩)
    · rw [he _ _ _ h1]
      simp only [maxLen] at k5
      refine hK σ _ _ (Ext.refl _) (fun _ _ => ⟨rfl, rfl⟩) ?_
      rw [this]
      exact hS.put hd (rep_int ⟨by simp only [minK]; omega, by simp only [maxK]; omega⟩)
  | .call f xs, he, h => by
    simp only [AOk] at he
    obtain ⟨us, hu, rfl⟩ := he
    simp only [EffIt] at h
    obtain ⟨g, x, ys, m, c, hg, hgf, hgv, hgx, hres, hmem⟩ := h
    obtain ⟨h1, h2, h5⟩ := hpu _ (assoc_mem hg)
    rw [h1.run]
    have hmem' : ∀ hp : Heap, it.mem.app id0 hp = hp := by
      intro hp
      rcases hmem with ⟨_, _, hmem⟩ | ⟨p, _, hmem⟩ <;> rw [hmem] <;> cases m <;> rfl
    cases hflat : g.flat with
    | false =>
      rw [hflat, Bool.false_or] at hgf
      have hvw : g.vw = [] ∧ g.pv = none := by
        unfold noVw at hgf
        split at hgf
        · exact ⟨by assumption, by assumption⟩
        · cases hgf
      rw [hvw.1] at hgv
      have hye : ys = xs ∧ m = none := by
        cases xs <;> simp only [view1, Option.some.injEq, Prod.mk.injEq] at hgv <;> exact ⟨hgv.1.symm, hgv.2.symm⟩
      obtain ⟨rfl, rfl⟩ := hye
      rcases hmem with ⟨_, hc, hmem⟩ | ⟨p, hp, _⟩
      · subst hc
        refine (h2 σ w ys us x hS.h.bound hS.h.mem hu hgx).mono ?_
        rintro e w' ⟨v, m', rfl, m1, m2, m3, m4, _, _, m6⟩
        obtain ⟨he, hh⟩ := grown hS.h hS.bl m1 m2 m3 m6
        have hS' : Sat rd w0 { σ with mem := m' } { s with hp := s.hp, nx := s.nx } a w' := hS.mono he hh (hS.bl.trans (m6.mono hS.bl.size))
        refine hK' _ _ _ he (fun _ _ => ⟨rfl, rfl⟩) (by rw [hmem]; trivial) ?_
        have : it.app id0 s = ({ s with hp := s.hp, nx := s.nx } : St).put o.dst x := by simp only [It.app, hmem', hres, hdst]
        rw [this]
        exact hS'.put hd (Rep.mono3 (σ := ⟨fun _ => none, m', fun _ => none, fun _ _ => none, fun _ => none, 0, fun _ => false, fun _ => false⟩) (τ := { σ with mem := m' }) ⟨fun i b h => (by cases h), fun _ _ _ h => h, fun i u h => (by cases h)⟩ x v (m4 hflat))
      · rw [hvw.2] at hp; cases hp
    | true =>
    replace hgf := hflat
    obtain ⟨ids, hy⟩ := view1_rep hS.h hu hgv
    have hgo : c = true → lpOk it.mem → Calls' P f us.toArray w fun
      | .returned v, w'' => next (a.put o.dst v) w''
      | .panicked chain, w'' => Q (.panic chain) a w''
      | .outgrown, _ => False := by
      intro hc hl
      subst hc
      refine (h2 { σ with mem := frozen σ s.hp ids w } w ys us x hS.h.bound (frozen_ok hS.h _) hy hgx).mono ?_
      rintro e w' ⟨v, m', rfl, _, _, _, _, hv, _, hbl⟩
      have hS' : Sat rd w0 σ { s with hp := s.hp, nx := s.nx } a w' := hS.mono (Ext.refl _) (hS.h.below hbl) (hS.bl.trans (hbl.mono hS.bl.size))
      refine hK' σ _ _ (Ext.refl _) (fun _ _ => ⟨rfl, rfl⟩) hl ?_
      have : it.app id0 s = ({ s with hp := s.hp, nx := s.nx } : St).put o.dst x := by simp only [It.app, hmem', hres, hdst]
      rw [this]
      exact hS'.put hd (hv hgf _ (fun _ _ h => h))
    rcases hmem with ⟨_, hc, hmem⟩ | ⟨p, hp, hmem⟩
    · exact hgo hc (by rw [hmem]; cases m <;> trivial)
    · cases c with
      | true => exact hgo rfl (by rw [hmem]; cases m <;> exact rfl)
      | false =>
        obtain ⟨hin, hcalls⟩ := h5 p hp { σ with mem := frozen σ s.hp ids w } w ys us x hS.h.bound (frozen_ok hS.h _) hy hgx
        refine hcalls.mono ?_
        rintro e w' ⟨rfl, hbl⟩
        have hS' : Sat rd w0 σ { s with hp := s.hp, nx := s.nx } a w' := hS.mono (Ext.refl _) (hS.h.below hbl) (hS.bl.trans (hbl.mono hS.bl.size))
        refine hP w' p ?_ hin hS'
        rw [hmem]
        cases m with
        | none => exact ⟨0, 0, 0, rfl⟩
        | some z => exact ⟨z.1, z.2.1, z.2.2, rfl⟩
  | .mapGet id kc vc z k ok, he, h => by
    simp only [AOk] at he
    obtain ⟨b, t, kt, vt, key, zv, e1, e2, e3, e4, e5, e6, rfl⟩ := he
    simp only [EffIt] at h
    obtain ⟨M, k', z', ho, hk, hz, hmem, hres⟩ := h
    have hK := fun τ a' w' e1 e2 e3 => hK' τ a' w' e1 e2 (show lpOk it.mem by rw [hmem]; trivial) e3
    obtain ⟨kc', vc', get, ents⟩ := M
    obtain ⟨hc, rfl⟩ := castL_one hk
    obtain ⟨hv, rfl⟩ := castL_one hz
    simp only at hc hv
    subst hc; subst hv
    obtain ⟨n, es, clock, h1, h2, h3, h4⟩ := hS.h.ob id _ ho
    rw [e1] at h1; cases h1
    obtain ⟨v, v1, v2⟩ := lookup_data (P := P) h2 h3 e2 e3 e4 e5 e6 ok
    simp only [Sem.run_bind, v2, Result.andThen_ok, Sem.run_pure]
    refine hK σ _ _ (Ext.refl _) (fun _ _ => ⟨rfl, rfl⟩) ?_
    have : it.app id0 s = s.put o.dst it.res := by simp only [It.app, hmem, Mem.app, hdst]
    rw [this, hres]
    cases ok with
    | true =>
      simp only [cond_true]
      refine hS.put (v := .tuple #[v, .bool (get k).isSome]) hd ?_
      simp only [Rep, RepL]
      exact ⟨_, ⟨_, _, rfl, v1.rep, _, _, rfl, rfl, rfl⟩, rfl⟩
    | false =>
      simp only [cond_false]
      exact hS.put (v := v) hd v1.rep
  | .mapSet id kc vc k x, he, h => by
    simp only [AOk] at he
    obtain ⟨b, t, kt, vt, key, v, e1, e2, e3, e4, e5, rfl⟩ := he
    simp only [EffIt] at h
    obtain ⟨M, k', z', ho, hk, hz, hmem, hres⟩ := h
    have hK := fun τ a' w' e1 e2 e3 => hK' τ a' w' e1 e2 (show lpOk it.mem by rw [hmem]; trivial) e3
    obtain ⟨kc', vc', get, ents⟩ := M
    obtain ⟨hc, rfl⟩ := castL_one hk
    obtain ⟨hv, rfl⟩ := castL_one hz
    simp only at hc hv
    subst hc; subst hv
    obtain ⟨n, es, clock, h1, h2, h3, h4⟩ := hS.h.ob id _ ho
    rw [e1] at h1; cases h1
    obtain ⟨es', clock', v2, v3⟩ := mapSet_data (P := P) h2 h3 e2 e3 e4 e5
    simp only [Sem.run_bind, v2, Result.andThen_ok, Sem.run_pure]
    have hh := hS.h.turnObj (by rw [ho]; simp) e1 (.map es' clock') (o := .mp _) ⟨b, es', clock', e1, heap_putObj _ h2, v3, h4⟩
    refine hK σ _ _ (Ext.refl _) (fun _ _ => ⟨rfl, rfl⟩) ?_
    have hS' := hS.mono (Ext.refl _) hh (below_putObj hS.bl h4 _)
    have : it.app id0 s = St.put { s with hp := upd s.hp id (some (.mp ⟨kc, vc, fun i => bif beqD kc i k then some x else get i, ents⟩)) } o.dst (.val undef) := by
      simp only [It.app, hmem, Mem.app, hres, hdst]
    rw [this]
    exact hS'.put hd (by simp only [Rep])
  | .test c e, he, h => by
    simp only [AOk] at he
    simp only [EffIt] at h
    exact effIt_step hpu hS hfree hid hdst hd hP hK' e (he h.1) h.2
  | .alt c x y, he, h => by
    simp only [AOk] at he
    simp only [EffIt] at h
    rcases h with h | h
    · exact effIt_step hpu hS hfree hid hdst hd hP hK' x (he.1 h.1) h.2
    · exact effIt_step hpu hS hfree hid hdst hd hP hK' y (he.2 h.1) h.2
  | .list ty c xs, he, h => by
    simp only [AOk] at he
    obtain ⟨us, cap, rfl, h1, h2, h3, h4, h5⟩ := he
    simp only [EffIt] at h
    have hK := fun τ a' w' e1 e2 e3 => hK' τ a' w' e1 e2 (show lpOk it.mem by rw [h.1]; trivial) e3
    obtain ⟨τ, e, hoth, hτ, hsv, hh⟩ := hS.h.addAt hfree hid (obj := .cells us.toArray ty) (o := .arr ⟨ty, c, xs⟩) (sv := some (.slice (some ⟨w.heap.size, 0, none⟩) xs.length cap)) (fun τ e _ k1 k2 =>
      ⟨_, us.take (xs.length * c.size), k2, ⟨by simp only [List.length_take, h1]; exact Nat.min_eq_left (Nat.mul_le_mul_right _ h2), .inr ⟨w.heap.size, cap, us.toArray, rfl, hS.bl.size, by show (w.heap.push _)[w.heap.size]? = _; simp, h2, h3, by simpa using h1, by simp⟩⟩,
        LR.mono (fun x vs => RepD.mono e.2 c x vs) h5, h4, fun n => by simp only [Value.ownBlock]; rw [k1]⟩)
    have hS' : Sat rd w0 τ { s with hp := upd s.hp id0 (some (.arr ⟨ty, c, xs⟩)) } a _ := hS.mono e hh (hS.bl.alloc hS.bl.size _)
    refine hK τ _ _ e hoth ?_
    have : it.app id0 s = ({ s with hp := upd s.hp id0 (some (.arr ⟨ty, c, xs⟩)) } : St).put o.dst (.own id0) := by
      simp only [It.app, h.1, Mem.app, h.2, hdst]
    rw [this]
    exact hS'.put hd (x := .own id0) (by simp only [Rep]; exact ⟨hsv, _, _, _, rfl⟩)
  | .app .., _, h => by simp [EffIt] at h
  | .round .., _, h => by simp [EffIt] at h
  | .dfr _, _, h => by simp [EffIt] at h
  | .panic _, _, h => by simp [EffIt] at h
  | .mapNew .., _, h => by simp [EffIt] at h
  | .mapDel .., _, h => by simp [EffIt] at h
  | .mapClr .., _, h => by simp [EffIt] at h
  | .mapEnt .., _, h => by simp [EffIt] at h
  | .entSet .., _, h => by simp [EffIt] at h
  | .iter _, _, h => by simp [EffIt] at h
  | .nxt _, _, h => by simp [EffIt] at h
  | .trunc .., _, h => by simp [EffIt] at h
  | .listz .., _, h => by simp [EffIt] at h
  | .bad, _, h => by simp [EffIt] at h

theorem item_step (hpu : PuOk P pu) {rd : Bool} {w0 : World} {σ : Env} {s : St} {a : Go.Act} {w : World} {ops : Array Oper} {i id0 : Nat} {it : It} {K : Go.Act → World → Prop} {Q : Exit → Go.Act → World → Prop}
    (hS : Sat rd w0 σ s a w) (hfree : Free σ id0) (hid : id0 < s.nx) (hi : ItemOk pu id0 P ops i it s)
    (hP : ∀ w' (p : TypeId × IntKind × Int), (∃ id lo hi, it.mem = .lp id lo hi false p) → inK p.2.1 p.2.2 → Sat rd w0 σ s a w' → Q (.panic [{ v := .iface p.1 (.int p.2.1 p.2.2), recovered := false }]) a w')
    (hK : ∀ τ a' w', Ext σ τ → (∀ j, j ≠ id0 → τ j = σ j ∧ τ.sv j = σ.sv j) → lpOk it.mem → Sat rd w0 τ (it.app id0 s) a' w' → K a' w') : wpOpX P rd ops Q i K a w := by
  obtain ⟨o, h1, h2, h3, h4⟩ := hi
  unfold wpOpX
  simp only [h1]
  rcases h4 with ⟨hr, he⟩ | ⟨⟨j, want, d, k1, k2, k3, k4⟩, hres, hmem⟩
  · have hw : Region.wanted o (yielded ops a.tmps) = true := by
      unfold Runs at hr
      cases hg : o.guard with
      | none => simp [Region.wanted, hg]
      | some g =>
        obtain ⟨j, want⟩ := g
        rw [hg] at hr
        obtain ⟨d, k1, k2, k3⟩ := hr
        have hy := yielded_of k1 (by rw [hS.n]; exact k2)
        have hrep := hS.tm d
        rw [k3] at hrep; simp only [Rep] at hrep
        rw [hrep] at hy
        simp [Region.wanted, hg, hy]
    rw [if_pos hw]
    exact effIt_step hpu hS hfree hid h2 h3 hP hK _ (eff_ok hS.h.mem hS.eval o) he
  · have hy := yielded_of k2 (by rw [hS.n]; exact k3)
    have hrep := hS.tm d
    have hw : ¬ Region.wanted o (yielded ops a.tmps) = true := by
      rcases k4 with k4 | ⟨vs, k4⟩
      · rw [k4] at hrep; simp only [Rep] at hrep
        rw [hrep] at hy
        simp [Region.wanted, k1, hy]
      · rw [k4] at hrep; simp only [Rep] at hrep
        rw [hrep] at hy
        simp [Region.wanted, k1, hy]
    rw [if_neg hw]
    refine hK σ _ _ (Ext.refl _) (fun _ _ => ⟨rfl, rfl⟩) (by rw [hmem]; trivial) ?_
    have : it.app id0 s = s.put o.dst (.val undef) := by simp only [It.app, hmem, Mem.app, hres, h2]
    rw [this]
    exact hS.put h3 (by simp only [Rep])
end
end V
end Go.Proofs.Ytgchccljmjmibaa
