/- That the symbolic evaluator of the text Ea is sound, third part: operations in order, code, functions. -/
import Derived.Test.YtmmhbianajpdgaaEf
namespace Go.Proofs.Ytmmhbianajpdgaa
open Go.RowKit
namespace Ev

structure HRel (B : Nat) (σ : Nat → Option Nat) (hp : Heap) (nx : Nat) (w : World) : Prop where
  cell : ∀ id b, hp id = some b → ∃ n vs, σ id = some n ∧ w.heap[n]? = some (.cells (List.toArray vs) b.ty (0, 0)) ∧ RepL σ b.cs vs ∧ (b.own = true → B ≤ n)
  inj : ∀ i j n, σ i = some n → σ j = some n → i = j
  fresh : ∀ i, nx ≤ i → σ i = none
  bound : ∀ i n, σ i = some n → n < w.heap.size

structure Sat (w0 : World) (σ : Nat → Option Nat) (s : St) (a : Go.Act) (w : World) : Prop where
  h : HRel w0.heap.size σ s.hp s.nx w
  tm : ∀ t, Rep σ (s.tm t) (a.tmps.getD t undef)
  n : a.tmps.size = s.n
  df : a.defers = []
  bl : Below w0.heap.size w0 w

theorem HRel.below {B : Nat} {σ : Nat → Option Nat} {hp : Heap} {nx : Nat} {w w' : World} (h : HRel B σ hp nx w) (hb : Below w.heap.size w w') : HRel B σ hp nx w' := by
  refine ⟨fun id b hi => ?_, h.inj, h.fresh, fun i n hn => Nat.lt_of_lt_of_le (h.bound i n hn) hb.size⟩
  obtain ⟨n, vs, h1, h2, h3, h4⟩ := h.cell id b hi
  exact ⟨n, vs, h1, (hb.block n (h.bound id n h1)).trans h2, h3, h4⟩

theorem beq_ne {i j : Nat} (h : i ≠ j) : Nat.beq i j = false := by
  cases hb : Nat.beq i j with
  | false => rfl
  | true => exact absurd (Nat.eq_of_beq_eq_true hb) h
theorem upd_same {β : Type} (f : Nat → β) (i : Nat) (x : β) : upd f i x i = x := by simp [upd]
theorem upd_other {β : Type} (f : Nat → β) {i j : Nat} (x : β) (h : j ≠ i) : upd f i x j = f j := by
  simp [upd, beq_ne h]

theorem Sat.eval {w0 : World} {σ : Nat → Option Nat} {s : St} {a : Go.Act} {w : World} (h : Sat w0 σ s a w) (x : Operand) : Rep σ (s.eval x) (a.eval x) := by
  cases x with
  | tmp t => exact h.tm t
  | const v => exact rep_ofV σ v
  | global g => simp [St.eval, Go.Act.eval, Rep]
  | func f => simp [St.eval, Go.Act.eval, Rep, RepL]

theorem tm_put {σ : Nat → Option Nat} {tm : Nat → AV} {tmps : Array Value} {x : AV} {v : Value} (h : ∀ t, Rep σ (tm t) (tmps.getD t undef)) (d : Nat) (hd : d < tmps.size) (hx : Rep σ x v) (t : Nat) : Rep σ (upd tm d x t) ((tmps.setIfInBounds d v).getD t undef) := by
  by_cases htd : t = d
  · subst htd
    rw [upd_same]
    simp [Array.getD, hd]
    exact hx
  · rw [upd_other _ _ htd]
    have := h t
    simp only [Array.getD_eq_getD_getElem?, Array.getElem?_setIfInBounds] at this ⊢
    simp only [if_neg (Ne.symm htd)]
    exact this

theorem Sat.put {w0 : World} {σ : Nat → Option Nat} {s : St} {a : Go.Act} {w : World} (h : Sat w0 σ s a w) {o : Option Nat} (hd : o.getD 0 < s.n) {x : AV} {v : Value} (hx : Rep σ x v) : Sat w0 σ (s.put o x) (a.put o v) w := by
  cases o with
  | none => exact h
  | some d =>
    refine ⟨h.h, ?_, ?_, h.df, h.bl⟩
    · exact tm_put h.tm d (by rw [h.n]; simpa using hd) hx
    · simp [Go.Act.put, St.put, h.n]

theorem Sat.mono {w0 : World} {σ τ : Nat → Option Nat} {s : St} {a : Go.Act} {w w' : World} {hp : Heap} {nx : Nat} (h : Sat w0 σ s a w) (e : Ext σ τ) (hh : HRel w0.heap.size τ hp nx w') (hb : Below w0.heap.size w0 w') : Sat w0 τ { s with hp := hp, nx := nx } a w' :=
  ⟨hh, fun t => (h.tm t).mono e, h.n, h.df, hb⟩

/-- a new block -/
theorem HRel.alloc {B : Nat} {σ : Nat → Option Nat} {hp : Heap} {nx : Nat} {w : World} (h : HRel B σ hp nx w) (hB : B ≤ w.heap.size) {b : Blk} {us : List Value} (hu : RepL σ b.cs us) :
    ∃ τ, Ext σ τ ∧ τ nx = some w.heap.size ∧ HRel B τ (upd hp nx (some b)) (nx + 1) (w.alloc (.cells us.toArray b.ty)) := by
  have hn : σ nx = none := h.fresh nx (Nat.le_refl _)
  have he : Ext σ (upd σ nx (some w.heap.size)) := fun i n hi => by
    rw [upd_other _ _ (fun e => by rw [e, hn] at hi; simp at hi)]; exact hi
  refine ⟨upd σ nx (some w.heap.size), he, upd_same _ _ _, ?_, ?_, ?_, ?_⟩
  · intro id c hc
    by_cases hid : id = nx
    · subst hid
      rw [upd_same] at hc; cases hc
      refine ⟨w.heap.size, us, upd_same _ _ _, ?_, RepL.mono he _ _ hu, fun _ => hB⟩
      show (w.heap.push _)[w.heap.size]? = _
      simp
    · rw [upd_other _ _ hid] at hc
      obtain ⟨n, vs, h1, h2, h3, h4⟩ := h.cell id c hc
      refine ⟨n, vs, by rw [upd_other _ _ hid]; exact h1, ?_, RepL.mono he _ _ h3, h4⟩
      rw [Below.heap_alloc _ _ _ (h.bound id n h1)]; exact h2
  · intro i j n hi hj
    by_cases h1 : i = nx
    · by_cases h2 : j = nx
      · rw [h1, h2]
      · subst h1
        rw [upd_same] at hi; rw [upd_other _ _ h2] at hj
        cases hi
        exact absurd (h.bound j _ hj) (Nat.lt_irrefl _)
    · by_cases h2 : j = nx
      · subst h2
        rw [upd_same] at hj; rw [upd_other _ _ h1] at hi
        cases hj
        exact absurd (h.bound i _ hi) (Nat.lt_irrefl _)
      · rw [upd_other _ _ h1] at hi; rw [upd_other _ _ h2] at hj; exact h.inj i j n hi hj
  · intro i hi
    rw [upd_other _ _ (by omega)]; exact h.fresh i (by omega)
  · intro i n hi
    have hs : (w.alloc (.cells us.toArray b.ty)).heap.size = w.heap.size + 1 := by simp
    by_cases h1 : i = nx
    · subst h1; rw [upd_same] at hi; cases hi; omega
    · rw [upd_other _ _ h1] at hi; have := h.bound i n hi; omega

/-- a store into a block -/
theorem HRel.store {B : Nat} {σ : Nat → Option Nat} {hp : Heap} {nx : Nat} {w : World} (h : HRel B σ hp nx w) {id n : Nat} {b : Blk} (hid : hp id = some b) (hn : σ id = some n) {cs : List AV} {us : List Value} (hu : RepL σ cs us) (ho : b.own = true) :
    HRel B σ (upd hp id (some ⟨b.ty, cs, true⟩)) nx (w.setRow n us.toArray) := by
  obtain ⟨m, vs, h1, h2, h3, h4⟩ := h.cell id b hid
  rw [hn] at h1; cases h1
  refine ⟨?_, h.inj, h.fresh, fun i k hi => by rw [setRow_size]; exact h.bound i k hi⟩
  intro j c hc
  by_cases hj : j = id
  · subst hj
    rw [upd_same] at hc; cases hc
    exact ⟨n, us, hn, setRow_heap w n _ _ _ _ h2, hu, fun _ => h4 ho⟩
  · rw [upd_other _ _ hj] at hc
    obtain ⟨k, vs', k1, k2, k3, k4⟩ := h.cell j c hc
    refine ⟨k, vs', k1, ?_, k3, k4⟩
    rw [setRow_other w n k _ (fun e => hj (h.inj j id k k1 (e ▸ hn)))]
    exact k2

theorem below_setRow {B : Nat} {w0 w : World} (h : Below B w0 w) {n : Nat} (hn : B ≤ n) (cs : Array Value) : Below B w0 (w.setRow n cs) :=
  h.trans ⟨rfl, rfl, rfl, by rw [setRow_size]; exact Nat.le_refl _, fun k hk => setRow_other w n k cs (by omega)⟩

/-- what a handler of calls owes -/
def CTok (P : Program) {α : Type} (cT : CallT α) (R : α → Prop) : Prop :=
  ∀ (w0 : World) (σ : Nat → Option Nat) (hp : Heap) (nx : Nat) (w : World) (f : FuncId) (xs : List AV) (us : List Value) (K : AV → Heap → Nat → Tree α),
    HRel w0.heap.size σ hp nx w → Below w0.heap.size w0 w → RepL σ xs us → (cT f xs hp nx K).sat R →
    (callFunc f us.toArray).run P w = .ok (.enter f us.toArray) w ∧
    Calls P f us.toArray w fun e w' => ∃ v x τ hp' nx', e = .returned v ∧ Ext σ τ ∧ HRel w0.heap.size τ hp' nx' w' ∧ Below w0.heap.size w0 w' ∧ Rep τ x v ∧ (K x hp' nx').sat R

section
variable {P : Program} {α : Type} {cT : CallT α} {R : α → Prop}

theorem evEff_sound (hc : CTok P cT R) {w0 : World} {σ : Nat → Option Nat} {s : St} {a : Go.Act} {w : World} {o : Oper} {K : St → Tree α} {next : Go.Act → World → Prop} {Q : Exit → Go.Act → World → Prop} {r : Result Next}
    (hS : Sat w0 σ s a w) (hd : o.dst.getD 0 < s.n) : ∀ (e : Eff), AOk P σ w r e → (evEff cT o.dst s K e).sat R →
    (∀ τ s' a' w', Ext σ τ → Sat w0 τ s' a' w' → (K s').sat R → next a' w') → o.upon P a next Q r
  | .val x, he, h, hK => by
    simp only [AOk] at he
    obtain ⟨v, rfl, hv⟩ := he
    rw [Oper.upon_value]
    exact hK σ _ _ _ (Ext.refl _) (hS.put hd hv) h
  | .load id row st col n agg, he, h, hK => by
    simp only [AOk] at he
    obtain ⟨hn, he⟩ := he
    simp only [evEff] at h
    cases hb : s.hp id with
    | none => simp [hb, Tree.sat] at h
    | some b =>
      obtain ⟨m, vs, h1, h2, h3, h4⟩ := hS.h.cell id b hb
      simp only [hb] at h
      cases hl : Nat.ble (row * st + col + n) (lenA b.cs) with
      | false => simp [hl, Tree.sat] at h
      | true =>
        simp only [hl, cond_true, takeA_eq, dropA_eq, nth_eq] at h
        simp only [Nat.ble_eq, lenA_eq] at hl
        rw [he m b.ty vs h1 h2 (by rw [← h3.length]; exact hl), Oper.upon_value]
        cases agg with
        | true =>
          simp only [cond_true] at h
          refine hK σ _ _ _ (Ext.refl _) (hS.put hd ?_) h
          simp only [if_true, Rep]
          exact ⟨_, (h3.drop _).take _, rfl⟩
        | false =>
          simp only [cond_false] at h
          have hn1 := hn rfl
          subst hn1
          have hlt : row * st + col < b.cs.length := by omega
          rw [List.getElem?_eq_getElem hlt] at h
          obtain ⟨v, hv, hr⟩ := h3.get (List.getElem?_eq_getElem hlt)
          refine hK σ _ _ _ (Ext.refl _) (hS.put hd ?_) h
          simp only [Bool.false_eq_true, if_false, List.getD, hv, Option.getD_some]
          exact hr
  | .store id row st col xs, he, h, hK => by
    simp only [AOk] at he
    obtain ⟨us, hu, he⟩ := he
    simp only [evEff] at h
    cases hb : s.hp id with
    | none => simp [hb, Tree.sat] at h
    | some b =>
      obtain ⟨m, vs, h1, h2, h3, h4⟩ := hS.h.cell id b hb
      simp only [hb] at h
      cases hl : (b.own && Nat.ble (row * st + col + lenA xs) (lenA b.cs)) with
      | false => simp [hl, Tree.sat] at h
      | true =>
        simp only [hl, cond_true] at h
        simp only [Bool.and_eq_true, Nat.ble_eq, lenA_eq] at hl
        rw [he m b.ty vs h1 h2 (by rw [← h3.length, ← hu.length]; exact hl.2), Oper.upon_skip]
        have hh := hS.h.store hb h1 (setsA_rep _ _ (row * st + col) _ _ h3 hu) hl.1
        have hS' : Sat w0 σ { s with hp := upd s.hp id (some ⟨b.ty, setsA b.cs (row * st + col) xs, true⟩) } a (w.setRow m (setsA vs (row * st + col) us).toArray) :=
          hS.mono (Ext.refl _) hh (below_setRow hS.bl (h4 hl.1) _)
        exact hK σ _ _ _ (Ext.refl _) (hS'.put hd (by simp only [Rep])) h
  | .alloc b mk, he, h, hK => by
    simp only [AOk] at he
    obtain ⟨us, v, hu, rfl, hv⟩ := he
    simp only [evEff] at h
    rw [Oper.upon_value]
    obtain ⟨τ, e, hτ, hh⟩ := hS.h.alloc hS.bl.size hu
    have hS' : Sat w0 τ { s with hp := upd s.hp s.nx (some b), nx := s.nx + 1 } a _ := hS.mono e hh (hS.bl.alloc hS.bl.size _)
    exact hK τ _ _ _ e (hS'.put hd (hv τ s.nx e hτ)) h
  | .app id row st n cap id' row' st' m, he, h, hK => by
    simp only [AOk] at he
    obtain ⟨hst, hnm, hcp, he⟩ := he
    simp only [evEff] at h
    cases hb : s.hp id with
    | none => simp [hb, Tree.sat] at h
    | some b =>
      cases hb' : s.hp id' with
      | none => simp [hb, hb', Tree.sat] at h
      | some b' =>
        obtain ⟨g, vs, h1, h2, h3, h4⟩ := hS.h.cell id b hb
        obtain ⟨g', vs', h1', h2', h3', h4'⟩ := hS.h.cell id' b' hb'
        simp only [hb, hb'] at h
        cases hl : (b.own && (Nat.ble ((row' + m) * st') (lenA b'.cs) && (Nat.ble ((row + n + m) * st) (lenA b.cs) && (takeA (m * st') (dropA (row' * st') b'.cs)).all one))) with
        | false => simp [hl, Tree.sat] at h
        | true =>
          simp only [hl, cond_true] at h
          simp only [Bool.and_eq_true, Nat.ble_eq, lenA_eq, takeA_eq, dropA_eq] at hl h
          obtain ⟨l1, l2, l3, l4⟩ := hl
          have hx := (h3'.drop (row' * st')).take (m * st')
          rw [he g g' b.ty b'.ty vs vs' h1 h1' h2 h2' (by rw [← h3'.length]; exact l2) (by rw [← h3.length]; exact l3) (all_one hx l4), Oper.upon_value]
          have hh := hS.h.store hb h1 (setsA_rep _ _ ((row + n) * st) _ _ h3 hx) l1
          have hS' : Sat w0 σ { s with hp := upd s.hp id (some ⟨b.ty, setsA b.cs ((row + n) * st) ((b'.cs.drop (row' * st')).take (m * st')), true⟩) } a (w.setRow g (setsA vs ((row + n) * st) ((vs'.drop (row' * st')).take (m * st'))).toArray) :=
            hS.mono (Ext.refl _) hh (below_setRow hS.bl (h4 l1) _)
          exact hK σ _ _ _ (Ext.refl _) (hS'.put hd (by simp only [Rep]; exact ⟨by omega, hcp, g, h1, rfl⟩)) h
  | .call f xs, he, h, hK => by
    simp only [AOk] at he
    obtain ⟨us, hu, rfl⟩ := he
    simp only [evEff] at h
    obtain ⟨h1, h2⟩ := hc w0 σ s.hp s.nx w f xs us _ hS.h hS.bl hu h
    rw [h1, Oper.upon_enter]
    refine h2.mono ?_
    rintro e w' ⟨v, x, τ, hp', nx', rfl, h3, h4, h5, h6, h7⟩
    have hS' : Sat w0 τ { s with hp := hp', nx := nx' } a w' := hS.mono h3 h4 h5
    exact hK τ _ _ _ h3 (hS'.put hd h6) h7
  | .test c e, he, h, hK => by
    simp only [AOk] at he
    simp only [evEff] at h
    cases c with
    | false => simp [Tree.sat] at h
    | true => exact evEff_sound hc hS hd e (he rfl) (by simpa using h) hK
  | .bad, _, h, _ => by simp [evEff, Tree.sat] at h

theorem Sat.learn {w0 : World} {σ : Nat → Option Nat} {s : St} {a : Go.Act} {w : World} (h : Sat w0 σ s a w) {d : Nat} {x : AV} (hx : Rep σ x (a.tmps.getD d undef)) : Sat w0 σ (s.put (some d) x) a w := by
  refine ⟨h.h, fun t => ?_, h.n, h.df, h.bl⟩
  by_cases ht : t = d
  · subst ht
    show Rep σ (upd s.tm t x t) _
    rw [upd_same]; exact hx
  · show Rep σ (upd s.tm d x t) _
    rw [upd_other _ _ ht]; exact h.tm t

theorem yielded_of {ops : Array Oper} {a : Go.Act} {j d : Nat} (hd : (ops[j]?).bind (·.dst) = some d) (hlt : d < a.tmps.size) : yielded ops a.tmps j = match a.tmps.getD d undef with | .bool b => some b | _ => none := by
  have : a.tmps[d]? = some (a.tmps.getD d undef) := by simp [Array.getD, hlt]
  unfold yielded
  rw [hd]
  simp only [Option.bind_some, this]
  cases a.tmps.getD d undef <;> rfl

theorem evOps_step (hc : CTok P cT R) {w0 : World} {ops : Array Oper} {K : St → Tree α} {Q : Exit → Go.Act → World → Prop} {next : Go.Act → World → Prop} {i : Nat} {rest : List Nat} {σ : Nat → Option Nat} {s : St} {a : Go.Act} {w : World}
    (hS : Sat w0 σ s a w) (h : (evOps P cT ops (i :: rest) s K).sat R) (IH : ∀ τ s' a' w', Ext σ τ → Sat w0 τ s' a' w' → (evOps P cT ops rest s' K).sat R → next a' w') : wpOp P ops Q i next a w := by
    unfold wpOp
    simp only [evOps] at h
    cases ho : ops[i]? with
    | none => simp only [ho] at h ⊢; exact IH σ s a w (Ext.refl _) hS h
    | some o =>
      simp only [ho] at h ⊢
      cases hd : Nat.ble s.n (o.dst.getD 0) with
      | true => simp [hd, Tree.sat] at h
      | false =>
        simp only [hd, cond_false] at h
        have hd' : o.dst.getD 0 < s.n := by
          rcases Nat.lt_or_ge (o.dst.getD 0) s.n with x | x
          · exact x
          · have : Nat.ble s.n (o.dst.getD 0) = true := by simpa using x
            rw [this] at hd; simp at hd
        cases hg : o.guard with
        | none =>
          simp only [hg] at h
          rw [if_pos (by simp [Region.wanted, hg])]
          exact .inl (evEff_sound hc hS hd' _ (eff_ok hS.eval o) h IH)
        | some g =>
          obtain ⟨j, want⟩ := g
          simp only [hg] at h
          cases hdst : (ops[j]?).bind (·.dst) with
          | none => simp [hdst, Tree.sat] at h
          | some d =>
            simp only [hdst] at h
            cases hn : Nat.ble s.n d with
            | true => simp [hn, Tree.sat] at h
            | false =>
              simp only [hn, cond_false] at h
              have hlt : d < a.tmps.size := by
                rw [hS.n]
                rcases Nat.lt_or_ge d s.n with x | x
                · exact x
                · have : Nat.ble s.n d = true := by simpa using x
                  rw [this] at hn; simp at hn
              have hy := yielded_of hdst hlt
              have hr := hS.tm d
              cases hx : s.tm d with
              | bool b =>
                rw [hx] at hr h
                simp only [Rep] at hr
                rw [hr] at hy
                simp only at hy h
                have hw : Region.wanted o (yielded ops a.tmps) = (b == want) := by simp [Region.wanted, hg, hy]
                have hL : Sat w0 σ (s.put (some d) (.bool b)) a w := hS.learn (by rw [hr]; simp only [Rep])
                cases b <;> cases want <;> simp only [cond_true, cond_false] at h <;> rw [hw]
                · rw [if_pos (show (false == false) = true from rfl)]
                  exact .inl (evEff_sound hc hL hd' _ (eff_ok hL.eval o) h IH)
                · rw [if_neg (by decide)]
                  exact IH σ _ _ _ (Ext.refl _) (hL.put hd' (by simp only [Rep])) h
                · rw [if_neg (by decide)]
                  exact IH σ _ _ _ (Ext.refl _) (hL.put hd' (by simp only [Rep])) h
                · rw [if_pos (show (true == true) = true from rfl)]
                  exact .inl (evEff_sound hc hL hd' _ (eff_ok hL.eval o) h IH)
              | val v =>
                rw [hx] at hr h
                simp only [Rep] at hr
                cases v with
                | tuple vs =>
                  rw [hr] at hy
                  simp only at hy h
                  rw [if_neg (by simp [Region.wanted, hg, hy])]
                  exact IH σ _ _ _ (Ext.refl _) (hS.put hd' (by simp only [Rep])) h
                | _ => simp [Tree.sat] at h
              | _ => rw [hx] at h; simp [Tree.sat] at h
theorem evOps_sound (hc : CTok P cT R) {w0 : World} {ops : Array Oper} {K : St → Tree α} {Q : Exit → Go.Act → World → Prop} : ∀ (l : List Nat) (σ : Nat → Option Nat) (s : St) (a : Go.Act) (w : World),
    Sat w0 σ s a w → (evOps P cT ops l s K).sat R → (∀ τ s' a' w', Ext σ τ → Sat w0 τ s' a' w' → (K s').sat R → Q .normal a' w') → wpOps P ops Q l a w
  | [], σ, s, a, w, hS, h, hK => hK σ s a w (Ext.refl _) hS h
  | i :: rest, σ, s, a, w, hS, h, hK => by
    rw [wpOps_cons]
    exact evOps_step hc hS h fun τ s' a' w' e hS' h' => evOps_sound hc rest τ s' a' w' hS' h' (fun τ' s2 a2 w2 e2 => hK τ' s2 a2 w2 (e.trans e2))

end
end Ev
end Go.Proofs.Ytmmhbianajpdgaa
