/- That the symbolic evaluator of the text Va is sound, second part: the call's own blocks, lists and loops; operations in order. -/
import Derived.Test.YtmmhbianajpdgaaVf
import Derived.Test.YtmmhbianajpdgaaVw
import Derived.Laws.AppendOwn
import Derived.Below
namespace Go.Proofs.Ytmmhbianajpdgaa
open Go.RowKit
namespace V

/-- a loop's record -/
structure LpRel (σ : Env) (r : LoopR) (L : Loop) : Prop where
  tm : ∀ t, Rep σ (r.tm t) (L.tmps.getD t undef)
  n : L.tmps.size = r.n
  fn : L.fn = r.fn
  params : L.params.toList = r.params
  assign : L.assign = r.assign
  body : L.body = r.body
  st : L.state = r.st
  pend : L.pending = r.pend
/-- an object of the call's own -/
def ObRel (B : Nat) (σ : Env) (w : World) (id : Nat) : Ob → Prop
  | .blk b => ∃ n vs, σ id = some n ∧ w.heap[n]? = some (.cells (List.toArray vs) b.ty (0, 0)) ∧ RepL σ b.cs vs ∧ B ≤ n
  | .arr A => ∃ v us, σ.sv id = some v ∧ w.ownsRow B A.ty A.c.size v A.xs.length us ∧ LR (RepD σ.mem A.c) A.xs us ∧ 0 < A.c.size ∧ ∀ n, v.ownBlock = some n ↔ σ id = some n
  | .lp r => ∃ n L, σ id = some n ∧ w.heap[n]? = some (.loop L) ∧ LpRel σ r L ∧ B ≤ n
  | .dfr => ∃ n, σ id = some n ∧ w.heap[n]? = some (.deferred (some [])) ∧ B ≤ n
  | .mp _ => False

structure HRel (B : Nat) (σ : Env) (hp : Heap) (nx : Nat) (w : World) : Prop where
  ob : ∀ id o, hp id = some o → ObRel B σ w id o
  inj : ∀ i j n, hp i ≠ none → hp j ≠ none → σ i = some n → σ j = some n → i = j
  fresh : ∀ i, nx ≤ i → σ i = none ∧ σ.sv i = none ∧ hp i = none
  bound : ∀ i n, σ i = some n → n < w.heap.size
  mem : MemOk σ.mem w
  sep : ∀ i n, hp i ≠ none → σ i = some n → ∀ o, σ.mem n o = none
  low : ∀ b o v, σ.mem b o = some v → b < B → σ.low b o = some v

inductive DfL (σ : Env) : List DfA → List Deferred → Prop
  | nil : DfL σ [] []
  | cons {d : DfA} {D : Deferred} {ds : List DfA} {Ds : List Deferred} (h : RepDf σ d D) (t : DfL σ ds Ds) : DfL σ (d :: ds) (D :: Ds)
theorem DfL.mono {σ τ : Env} (e : Ext σ τ) {ds : List DfA} {Ds : List Deferred} (h : DfL σ ds Ds) : DfL τ ds Ds := by
  induction h with
  | nil => exact .nil
  | cons h _ ih => exact .cons (h.mono e) ih

structure Sat (rd : Bool) (w0 : World) (σ : Env) (s : St) (a : Go.Act) (w : World) : Prop where
  h : HRel w0.heap.size σ s.hp s.nx w
  tm : ∀ t, Rep σ (s.tm t) (a.tmps.getD t undef)
  n : a.tmps.size = s.n
  df : DfL σ s.df a.defers
  bl : Below w0.heap.size w0 w
  rd : s.rd = rd

theorem heap_lt {w : World} {n : Nat} {o : Obj} (h : w.heap[n]? = some o) : n < w.heap.size := (Array.getElem?_eq_some_iff.1 h).1
theorem cell_lt {w : World} {b o : Nat} {v : Value} (h : w.cell? ⟨b, o, none⟩ = some v) : b < w.heap.size := World.block_lt_of_cell? w ⟨b, o, none⟩ h

theorem ObRel.keep {B : Nat} {σ τ : Env} {w w' : World} {id : Nat} {o : Ob} (e : Ext σ τ) (hat : τ id = σ id) (hk : ∀ n, σ id = some n → w'.heap[n]? = w.heap[n]?) (h : ObRel B σ w id o) : ObRel B τ w' id o := by
  cases o with
  | blk b =>
    obtain ⟨n, vs, h1, h2, h3, h4⟩ := h
    exact ⟨n, vs, hat.trans h1, (hk n h1).trans h2, h3.mono e, h4⟩
  | arr A =>
    obtain ⟨v, us, h1, h2, h3, h4, h5⟩ := h
    refine ⟨v, us, e.3 _ _ h1, ⟨h2.1, ?_⟩, LR.mono (fun x vs => RepD.mono e.2 _ x vs) h3, h4, fun n => by rw [hat]; exact h5 n⟩
    rcases h2.2 with k | ⟨g, cap, cur, k1, k2, k3, k4⟩
    · exact .inl k
    · subst k1
      exact .inr ⟨g, cap, cur, rfl, k2, (hk g ((h5 g).1 rfl)).trans k3, k4⟩
  | lp r =>
    obtain ⟨n, L, h1, h2, h3, h4⟩ := h
    exact ⟨n, L, hat.trans h1, (hk n h1).trans h2, ⟨fun t => (h3.tm t).mono e, h3.n, h3.fn, h3.params, h3.assign, h3.body, h3.st, h3.pend⟩, h4⟩
  | dfr =>
    obtain ⟨n, h1, h2, h3⟩ := h
    exact ⟨n, hat.trans h1, (hk n h1).trans h2, h3⟩
  | mp M => exact h

theorem MemOk.keep {m : Nat → Nat → Option Value} {w w' : World} (h : MemOk m w) (hk : ∀ n o v, m n o = some v → w'.heap[n]? = w.heap[n]?) : MemOk m w' := by
  intro b o v hb
  rw [World.cell?_of_block (a := ⟨b, o, none⟩) (hk b o v hb)]
  exact h b o v hb

theorem HRel.below {B : Nat} {σ : Env} {hp : Heap} {nx : Nat} {w w' : World} (h : HRel B σ hp nx w) (hb : Below w.heap.size w w') : HRel B σ hp nx w' := by
  refine ⟨fun id o hi => (h.ob id o hi).keep (Ext.refl σ) rfl fun n hn => hb.block n (h.bound id n hn), h.inj, h.fresh, fun i n hn => Nat.lt_of_lt_of_le (h.bound i n hn) hb.size, ?_, h.sep, h.low⟩
  exact h.mem.keep fun n o v hv => hb.block n (cell_lt (h.mem n o v hv))

theorem beq_ne {i j : Nat} (h : i ≠ j) : Nat.beq i j = false := by
  cases hb : Nat.beq i j with
  | false => rfl
  | true => exact absurd (Nat.eq_of_beq_eq_true hb) h
theorem upd_same {β : Type} (f : Nat → β) (i : Nat) (x : β) : upd f i x i = x := by simp [upd]
theorem upd_other {β : Type} (f : Nat → β) {i j : Nat} (x : β) (h : j ≠ i) : upd f i x j = f j := by
  simp [upd, beq_ne h]

theorem Sat.eval {rd : Bool} {w0 : World} {σ : Env} {s : St} {a : Go.Act} {w : World} (h : Sat rd w0 σ s a w) (x : Operand) : Rep σ (s.eval x) (a.eval x) := by
  cases x with
  | tmp t => exact h.tm t
  | const v => exact rep_ofV σ v
  | global g => simp [St.eval, Go.Act.eval, Rep]
  | func f => simp [St.eval, Go.Act.eval, Rep, RepL]

theorem tm_put {σ : Env} {tm : Nat → AV} {tmps : Array Value} {x : AV} {v : Value} (h : ∀ t, Rep σ (tm t) (tmps.getD t undef)) (d : Nat) (hd : d < tmps.size) (hx : Rep σ x v) (t : Nat) : Rep σ (upd tm d x t) ((tmps.setIfInBounds d v).getD t undef) := by
  by_cases htd : t = d
  · subst htd
    rw [upd_same]
    simp [Array.getD, hd]
    exact hx
  · rw [upd_other _ _ htd]
    have := h t
    simp only [Array.getD_eq_getD_getElem?, Array.getElem?_setIfInBounds] at this ⊢
    simp only [if_neg (Ne.symm htd)]
    exact this

theorem Sat.put {rd : Bool} {w0 : World} {σ : Env} {s : St} {a : Go.Act} {w : World} (h : Sat rd w0 σ s a w) {o : Option Nat} (hd : o.getD 0 < s.n) {x : AV} {v : Value} (hx : Rep σ x v) : Sat rd w0 σ (s.put o x) (a.put o v) w := by
  cases o with
  | none => exact h
  | some d =>
    refine ⟨h.h, ?_, ?_, h.df, h.bl, h.rd⟩
    · exact tm_put h.tm d (by rw [h.n]; simpa using hd) hx
    · simp [Go.Act.put, St.put, h.n]

theorem Sat.mono {rd : Bool} {w0 : World} {σ τ : Env} {s : St} {a : Go.Act} {w w' : World} {hp : Heap} {nx : Nat} (h : Sat rd w0 σ s a w) (e : Ext σ τ) (hh : HRel w0.heap.size τ hp nx w') (hb : Below w0.heap.size w0 w') : Sat rd w0 τ { s with hp := hp, nx := nx } a w' :=
  ⟨hh, fun t => (h.tm t).mono e, h.n, h.df.mono e, hb, h.rd⟩

/-- the call's own objects lie in blocks of its own -/
theorem HRel.ge {B : Nat} {σ : Env} {hp : Heap} {nx : Nat} {w : World} (h : HRel B σ hp nx w) {id n : Nat} (hid : hp id ≠ none) (hn : σ id = some n) : B ≤ n := by
  cases ho : hp id with
  | none => exact absurd ho hid
  | some o =>
    have hk := h.ob id o ho
    cases o with
    | blk b => obtain ⟨m, vs, h1, _, _, h4⟩ := hk; rw [hn] at h1; cases h1; exact h4
    | arr A => obtain ⟨v, us, _, h2, _, _, h5⟩ := hk; exact (h2.lt n ((h5 n).2 hn)).1
    | lp r => obtain ⟨m, L, h1, _, _, h4⟩ := hk; rw [hn] at h1; cases h1; exact h4
    | dfr => obtain ⟨m, h1, _, h4⟩ := hk; rw [hn] at h1; cases h1; exact h4
    | mp M => exact hk.elim
/-- an object is laid or turned -/
theorem HRel.putOb {B : Nat} {σ τ : Env} {hp hp' : Heap} {nx nx' : Nat} {w w' : World} {id : Nat} {o : Ob} (h : HRel B σ hp nx w)
    (e : Ext σ τ) (hm : τ.mem = σ.mem) (hsub : ∀ j o, hp' j = some o → hp j = some o) (hid : id < nx') (hnx : nx ≤ nx')
    (hat : ∀ j, j ≠ id → τ j = σ j) (hsv : ∀ j, j ≠ id → τ.sv j = σ.sv j) (hsz : w.heap.size ≤ w'.heap.size)
    (keep : ∀ j n, j ≠ id → hp' j ≠ none → σ j = some n → w'.heap[n]? = w.heap[n]?)
    (kmem : ∀ n oo v, σ.mem n oo = some v → w'.heap[n]? = w.heap[n]?)
    (hob : ObRel B τ w' id o)
    (hnew : ∀ n, τ id = some n → n < w'.heap.size ∧ (∀ j, j ≠ id → hp' j ≠ none → σ j ≠ some n) ∧ ∀ oo, σ.mem n oo = none) :
    HRel B τ (upd hp' id (some o)) nx' w' := by
  have hlive : ∀ j, hp' j ≠ none → hp j ≠ none := by
    intro j hj
    cases hc : hp' j with
    | none => exact absurd hc hj
    | some o => rw [hsub j o hc]; simp
  refine ⟨fun j p hj => ?_, fun i j n hi hj h1 h2 => ?_, fun i hi => ?_, fun i n hi => ?_, ?_, fun i n hi h1 oo => ?_, fun b oo v hv hlt => by rw [e.4]; rw [hm] at hv; exact h.low b oo v hv hlt⟩
  · by_cases hjd : j = id
    · subst hjd
      rw [upd_same] at hj; cases hj
      exact hob
    · rw [upd_other _ _ hjd] at hj
      exact (h.ob j p (hsub j p hj)).keep e (hat j hjd) fun n hn => keep j n hjd (by rw [hj]; simp) hn
  · by_cases hid1 : i = id
    · by_cases hjd : j = id
      · rw [hid1, hjd]
      · subst hid1
        rw [upd_other _ _ hjd] at hj
        rw [hat j hjd] at h2
        exact absurd h2 ((hnew n h1).2.1 j hjd hj)
    · rw [upd_other _ _ hid1] at hi
      rw [hat i hid1] at h1
      by_cases hjd : j = id
      · subst hjd
        exact absurd h1 ((hnew n h2).2.1 i hid1 hi)
      · rw [upd_other _ _ hjd] at hj
        rw [hat j hjd] at h2
        exact h.inj i j n (hlive i hi) (hlive j hj) h1 h2
  · have hne : i ≠ id := by omega
    obtain ⟨f1, f2, f3⟩ := h.fresh i (by omega)
    refine ⟨(hat i hne).trans f1, (hsv i hne).trans f2, ?_⟩
    rw [upd_other _ _ hne]
    cases hc : hp' i with
    | none => rfl
    | some o => rw [hsub i o hc] at f3; cases f3
  · by_cases hid1 : i = id
    · subst hid1; exact (hnew n hi).1
    · rw [hat i hid1] at hi; exact Nat.lt_of_lt_of_le (h.bound i n hi) hsz
  · rw [hm]; exact h.mem.keep kmem
  · rw [hm]
    by_cases hid1 : i = id
    · subst hid1; exact (hnew n h1).2.2 oo
    · rw [upd_other _ _ hid1] at hi
      rw [hat i hid1] at h1
      exact h.sep i n (hlive i hi) h1 oo

/-- objects are given up -/
theorem HRel.less {B : Nat} {σ : Env} {hp hp' : Heap} {nx : Nat} {w : World} (h : HRel B σ hp nx w) (hsub : ∀ j o, hp' j = some o → hp j = some o) : HRel B σ hp' nx w := by
  have hlive : ∀ j, hp' j ≠ none → hp j ≠ none := by
    intro j hj
    cases hc : hp' j with
    | none => exact absurd hc hj
    | some o => rw [hsub j o hc]; simp
  refine ⟨fun j o hj => h.ob j o (hsub j o hj), fun i j n hi hj => h.inj i j n (hlive i hi) (hlive j hj), fun i hi => ?_, h.bound, h.mem, fun i n hi => h.sep i n (hlive i hi), h.low⟩
  obtain ⟨f1, f2, f3⟩ := h.fresh i hi
  refine ⟨f1, f2, ?_⟩
  cases hc : hp' i with
  | none => rfl
  | some o => rw [hsub i o hc] at f3; cases f3
theorem less_none (hp : Heap) (id : Nat) : ∀ j o, upd hp id none j = some o → hp j = some o := by
  intro j o hj
  by_cases hjd : j = id
  · subst hjd; rw [upd_same] at hj; cases hj
  · rwa [upd_other _ _ hjd] at hj

/-- the environment with one more number -/
def Env.add (σ : Env) (id : Nat) (n : Option Nat) (v : Option Value) : Env := { σ with at_ := upd σ.at_ id n, sv := upd σ.sv id v }
theorem Env.add_ext {σ : Env} {id : Nat} {n : Option Nat} {v : Option Value} (h1 : σ id = none) (h2 : σ.sv id = none) : Ext σ (σ.add id n v) := by
  refine ⟨fun i b hi => ?_, fun _ _ _ h => h, fun i u hi => ?_, rfl⟩
  · show upd σ.at_ id n i = _
    rw [upd_other _ _ (fun e => by rw [e, h1] at hi; cases hi)]; exact hi
  · show upd σ.sv id v i = _
    rw [upd_other _ _ (fun e => by rw [e, h2] at hi; cases hi)]; exact hi

theorem mem_old {σ : Env} {w : World} (h : MemOk σ.mem w) {n oo : Nat} {v : Value} (hv : σ.mem n oo = some v) : n < w.heap.size := cell_lt (h n oo v hv)
theorem mem_new {σ : Env} {w : World} (h : MemOk σ.mem w) {n : Nat} (hn : w.heap.size ≤ n) (oo : Nat) : σ.mem n oo = none := by
  cases hc : σ.mem n oo with
  | none => rfl
  | some v => have := mem_old h hc; omega

/-- a new object in a new block -/
theorem HRel.new {B : Nat} {σ : Env} {hp : Heap} {nx : Nat} {w : World} (h : HRel B σ hp nx w) {obj : Obj} {o : Ob} {sv : Option Value}
    (hob : ∀ τ, Ext σ τ → τ.mem = σ.mem → τ nx = some w.heap.size → τ.sv nx = sv → ObRel B τ (w.alloc obj) nx o) :
    ∃ τ, Ext σ τ ∧ τ nx = some w.heap.size ∧ τ.sv nx = sv ∧ HRel B τ (upd hp nx (some o)) (nx + 1) (w.alloc obj) := by
  obtain ⟨f1, f2, f3⟩ := h.fresh nx (Nat.le_refl _)
  have he : Ext σ (σ.add nx (some w.heap.size) sv) := Env.add_ext f1 f2
  have hs : (w.alloc obj).heap.size = w.heap.size + 1 := by simp
  refine ⟨_, he, upd_same _ _ _, upd_same _ _ _, ?_⟩
  refine h.putOb he rfl (fun _ _ h => h) (by omega) (by omega) (fun j hj => upd_other _ _ hj) (fun j hj => upd_other _ _ hj) (by omega) ?_ ?_ (hob _ he rfl (upd_same _ _ _) (upd_same _ _ _)) ?_
  · intro j n _ _ hn; exact Below.heap_alloc _ _ _ (h.bound j n hn)
  · intro n oo v hv; exact Below.heap_alloc _ _ _ (mem_old h.mem hv)
  · intro n hn
    have : n = w.heap.size := by
      have e : (σ.add nx (some w.heap.size) sv) nx = some w.heap.size := upd_same _ _ _
      rw [e] at hn; cases hn; rfl
    subst this
    refine ⟨by omega, fun j _ _ hj => ?_, mem_new h.mem (Nat.le_refl _)⟩
    exact absurd (h.bound j _ hj) (Nat.lt_irrefl _)

theorem below_setRow {B : Nat} {w0 w : World} (h : Below B w0 w) {n : Nat} (hn : B ≤ n) (cs : Array Value) : Below B w0 (w.setRow n cs) :=
  h.trans ⟨rfl, rfl, rfl, by rw [setRow_size]; exact Nat.le_refl _, fun k hk => setRow_other w n k cs (by omega)⟩

/-- an object that lies in a row of cells is turned -/
theorem HRel.turn {B : Nat} {σ : Env} {hp : Heap} {nx : Nat} {w : World} (h : HRel B σ hp nx w) {id n : Nat} {o : Ob} (hid : hp id ≠ none) (hn : σ id = some n) (cs : Array Value) (hob : ObRel B σ (w.setRow n cs) id o) :
    HRel B σ (upd hp id (some o)) nx (w.setRow n cs) := by
  have hlt : id < nx := by
    rcases Nat.lt_or_ge id nx with x | x
    · exact x
    · exact absurd (h.fresh id x).2.2 hid
  refine h.putOb (Ext.refl σ) rfl (fun _ _ h => h) hlt (Nat.le_refl _) (fun _ _ => rfl) (fun _ _ => rfl) (by rw [setRow_size]; exact Nat.le_refl _) ?_ ?_ hob ?_
  · intro j k hj hpj hk
    exact setRow_other w n k cs (fun e => hj (h.inj j id n hpj hid (e ▸ hk) hn))
  · intro k oo v hv
    refine setRow_other w n k cs (fun e => ?_)
    subst e
    rw [h.sep id k hid hn oo] at hv; cases hv
  · intro k hk
    rw [hn] at hk; cases hk
    refine ⟨by rw [setRow_size]; exact h.bound id n hn, fun j hj hpj hjn => hj (h.inj j id n hpj hid hjn hn), h.sep id n hid hn⟩

mutual
theorem RepD.one {m : Nat → Nat → Option Value} : ∀ (c : TC) (x : TCT c) (vs : List Value), RepD m c x vs → ∀ v ∈ vs, v.oneCell' = true
  | .b, _, _, h => by simp only [RepD] at h; subst h; simp [Value.oneCell']
  | .i _, _, _, h => by simp only [RepD] at h; rw [h.1]; simp [Value.oneCell']
  | .s, _, _, h => by simp only [RepD] at h; subst h; simp [Value.oneCell']
  | .sl c, xs, vs, h => by
    have h0 := h
    simp only [RepD] at h
    obtain ⟨v, rfl, _⟩ := h
    intro u hu
    simp at hu; subst hu
    exact slD_one h0
  | .st cs, x, vs, h => by simp only [RepD] at h; exact RepDs.one cs x vs h
theorem RepDs.one {m : Nat → Nat → Option Value} : ∀ (cs : List TC) (x : TCTs cs) (vs : List Value), RepDs m cs x vs → ∀ v ∈ vs, v.oneCell' = true
  | [], _, _, h => by simp only [RepDs] at h; subst h; simp
  | c :: cs, x, vs, h => by
    simp only [RepDs] at h
    obtain ⟨a, b, rfl, h1, h2⟩ := h
    intro v hv
    rcases List.mem_append.1 hv with hv | hv
    · exact RepD.one c x.1 a h1 v hv
    · exact RepDs.one cs x.2 b h2 v hv
end
theorem LR.all {T : Type} {R : T → List Value → Prop} {Q : Value → Prop} (h : ∀ x vs, R x vs → ∀ v ∈ vs, Q v) : ∀ {xs : List T} {vs : List Value}, LR R xs vs → ∀ v ∈ vs, Q v
  | [], _, k => by simp only [LR] at k; subst k; simp
  | x :: xs, vs, ⟨a, b, e, k1, k2⟩ => by
    subst e
    intro v hv
    rcases List.mem_append.1 hv with hv | hv
    · exact h x a k1 v hv
    · exact LR.all h k2 v hv

theorem setsA_take : ∀ (us : List Value) (cs : List Value) (off n : Nat), off + us.length ≤ n → (setsA cs off us).take n = setsA (cs.take n) off us
  | [], cs, off, n, _ => rfl
  | u :: us, cs, off, n, h => by
    simp only [setsA, setA_eq]
    rw [setsA_take us (cs.set off u) (off + 1) n (by simp at h; omega), List.take_set]
theorem setsA_in : ∀ (q t us : List Value) (col : Nat), col + us.length ≤ q.length → setsA (q ++ t) col us = setsA q col us ++ t
  | q, t, [], col, _ => rfl
  | q, t, u :: us, col, h => by
    simp only [setsA, setA_eq]
    rw [List.set_append_left _ _ (by simp at h; omega)]
    exact setsA_in (q.set col u) t us (col + 1) (by simp at h ⊢; omega)

/-! append -/
section
variable {P : Program}
theorem append_own {w : World} {B : Nat} {t tr e : TypeId} {i : TypeInfo} {z : Value} (ht : P.underlying t = some (.slice e)) (hi : P.info? e = some i) (hz : i.zero = some z) (hzs : z.cells.size = i.size) (hsz : 0 < i.size)
    {v : Value} {n : Nat} {xs : List Value} (hown : w.ownsRow B e i.size v n xs) {u : Value} {m : Nat} {news : List Value}
    (hu : (u = .slice none 0 0 ∧ m = 0) ∨ ∃ ad c, u = .slice (some ad) m c ∧ ∀ (j : Nat) (y : Value), news[j]? = some y → w.cell? (ad.add j) = some y) (hl : news.length = m * i.size) (h1 : ∀ y ∈ news, y.oneCell' = true)
    (hbytes : (n + m) * i.bytes ≤ 140737488355328) (h63 : n + m ≤ maxLen) (hB : B ≤ w.heap.size) :
    ∃ v' w', (Builtin.append_ #[t, t] tr #[v, u]).run P w = .ok v' w' ∧ w'.ownsRow B e i.size v' (n + m) (xs ++ news) ∧ w.grownBy w' v.ownBlock ∧ (v'.ownBlock = v.ownBlock ∨ v'.ownBlock = some w.heap.size) := by
  rcases hu with ⟨rfl, rfl⟩ | ⟨ad, c, rfl, hnews⟩
  · have hn : news = [] := List.eq_nil_of_length_eq_zero (by simpa using hl)
    subst hn
    refine ⟨v, w, ?_, by simpa using hown, ⟨rfl, rfl, rfl, Nat.le_refl _, fun _ _ _ => rfl⟩, .inl rfl⟩
    rcases hown.2 with ⟨rfl, rfl⟩ | ⟨g, cap, cur, rfl, _, _, hcap, _⟩
    · simp [Builtin.append_, run_underlying ht, sizeOf, typeInfo, hi, Builtin.lenOf, Builtin.firstCells]
    · simp [Builtin.append_, run_underlying ht, sizeOf, typeInfo, hi, Builtin.lenOf, Builtin.firstCells, hcap, storeCells]
  · obtain ⟨v', w', hr, h2, h3, h4⟩ := run_append_own (P := P) w B t tr e i z i.size i.bytes ht hi hz rfl rfl hzs hsz v n xs hown ad m c news hl hnews h1 h63 hbytes hB
    refine ⟨v', w', hr, h2, h3, ?_⟩
    have h63' : n + m ≤ 9223372036854775807 := by simp only [maxLen] at h63; omega
    rcases hown.2 with ⟨rfl, rfl⟩ | ⟨g, cap, cur, rfl, hbg, hg, hnc, hcm, hcs, htake⟩
    · by_cases hm : m = 0
      · subst hm
        have := h4.2 ⟨rfl, rfl⟩
        subst this
        exact .inl rfl
      · have hr2 := run_append_nil (P := P) w t tr e i z ht hi hz ad m c news hl hnews (by omega) (by omega) (by have hb := hbytes; simp only [Nat.zero_add] at hb; omega)
        rw [hr] at hr2
        cases hr2
        exact .inr rfl
    · by_cases hroom : n + m ≤ cap
      · have hfit : n * i.size + news.length ≤ cur.size := by rw [hl, hcs, ← Nat.add_mul]; exact Nat.mul_le_mul_right _ hroom
        have hr2 := run_append_room (P := P) w t tr e i ht hi g n cap cur hg ad m c news hl hnews h1 hroom hfit
        rw [hr] at hr2
        cases hr2
        exact .inl rfl
      · have holds : ∀ j u, xs[j]? = some u → w.cell? ((⟨g, 0, none⟩ : Addr).add j) = some u := hown.cells (g := g) rfl
        have hr2 := run_append_grow (P := P) w t tr e i z ht hi hz ⟨g, 0, none⟩ n cap xs hown.1 holds ad m c news hl hnews (by omega) (by omega) (growslice_fits (by omega) hbytes)
        rw [hr] at hr2
        cases hr2
        exact .inr rfl
end
end V
end Go.Proofs.Ytmmhbianajpdgaa
