/- From the evaluator to contracts: what a loop's summary owes, shown by one walk through its body. -/
import Derived.Test.YtmmhbianajpdgaaEk
namespace Go.Proofs.Ytmmhbianajpdgaa
open Go.RowKit
namespace Ev

mutual
/-- a value names blocks below a number alone -/
def bd (n : Nat) : AV → Bool
  | .ptr id _ _ _ => Nat.blt id n
  | .sl id _ _ _ _ => Nat.blt id n
  | .agg cs => bdL n cs
  | .tup cs => bdL n cs
  | .fn _ a c => bdL n a && bdL n c
  | _ => true
def bdL (n : Nat) : List AV → Bool
  | [] => true
  | x :: xs => bd n x && bdL n xs
end
/-- the numbers of blocks below n -/
def cutSig (n : Nat) (σ : Nat → Option Nat) : Nat → Option Nat := fun i => if i < n then σ i else none
mutual
theorem rep_cut {n : Nat} {σ : Nat → Option Nat} : ∀ (x : AV) (v : Value), bd n x = true → Rep σ x v → Rep (cutSig n σ) x v
  | .bool _, _, _, h => by simpa only [Rep] using h
  | .int _ _, _, _, h => by simpa only [Rep] using h
  | .nilp, _, _, h => by simpa only [Rep] using h
  | .val _, _, _, h => by simpa only [Rep] using h
  | .top, _, _, _ => by simp only [Rep]
  | .ptr id row st col, v, hb, h => by
    simp only [Rep] at h ⊢
    obtain ⟨b, h1, h2⟩ := h
    refine ⟨b, ?_, h2⟩
    unfold cutSig
    rw [if_pos (blt_t.1 (by simpa only [bd] using hb))]
    exact h1
  | .sl id row st len cap, v, hb, h => by
    simp only [Rep] at h ⊢
    obtain ⟨k1, k2, b, h1, h2⟩ := h
    refine ⟨k1, k2, b, ?_, h2⟩
    unfold cutSig
    rw [if_pos (blt_t.1 (by simpa only [bd] using hb))]
    exact h1
  | .agg cs, v, hb, h => by
    simp only [Rep] at h ⊢
    obtain ⟨vs, h1, h2⟩ := h
    exact ⟨vs, repL_cut cs vs (by simpa only [bd] using hb) h1, h2⟩
  | .tup cs, v, hb, h => by
    simp only [Rep] at h ⊢
    obtain ⟨vs, h1, h2⟩ := h
    exact ⟨vs, repL_cut cs vs (by simpa only [bd] using hb) h1, h2⟩
  | .fn f a c, v, hb, h => by
    simp only [bd, Bool.and_eq_true] at hb
    simp only [Rep] at h ⊢
    obtain ⟨x, y, h1, h2, h3⟩ := h
    exact ⟨x, y, repL_cut a x hb.1 h1, repL_cut c y hb.2 h2, h3⟩
theorem repL_cut {n : Nat} {σ : Nat → Option Nat} : ∀ (xs : List AV) (vs : List Value), bdL n xs = true → RepL σ xs vs → RepL (cutSig n σ) xs vs
  | [], _, _, h => by simpa only [RepL] using h
  | x :: xs, vs, hb, h => by
    simp only [bdL, Bool.and_eq_true] at hb
    simp only [RepL] at h ⊢
    obtain ⟨v, us, h1, h2, h3⟩ := h
    exact ⟨v, us, h1, rep_cut x v hb.1 h2, repL_cut xs us hb.2 h3⟩
end

/-- the slots and the blocks that live at a loop's head, and the frame's size, and the next block's number there -/
structure Lv where
  keys : List Nat
  ids : List Nat
  n : Nat
  nx : Nat
abbrev Snap := List AV × List (Option Blk)
def snap (lv : Lv) (s : St) : Snap := (lv.keys.map s.tm, lv.ids.map s.hp)
def tmOf : List Nat → List AV → Nat → AV
  | k :: ks, x :: xs, i => bif Nat.beq i k then x else tmOf ks xs i
  | _, _, _ => .top
def hpOf : List Nat → List (Option Blk) → Nat → Option Blk
  | k :: ks, x :: xs, i => bif Nat.beq i k then x else hpOf ks xs i
  | _, _, _ => none
def ofSnap (lv : Lv) (v : Snap) : St := { tm := tmOf lv.keys v.1, n := lv.n, hp := hpOf lv.ids v.2, nx := lv.nx }
def blkBd (n : Nat) : Option Blk → Bool
  | some b => bdL n b.cs
  | none => true
/-- what lives names blocks below the next number alone -/
def snapBd (lv : Lv) (v : Snap) : Bool := bdL lv.nx v.1 && (v.2.all (blkBd lv.nx) && lv.ids.all (fun i => Nat.blt i lv.nx))

theorem bdL_get {n : Nat} : ∀ {xs : List AV} {i : Nat} {x : AV}, bdL n xs = true → xs[i]? = some x → bd n x = true
  | [], _, _, _, h => by simp at h
  | y :: ys, 0, x, hb, h => by simp [bdL] at hb; simp at h; subst h; exact hb.1
  | y :: ys, i + 1, x, hb, h => by simp [bdL] at hb; exact bdL_get (xs := ys) hb.2 (by simpa using h)

theorem tmOf_snap (tm : Nat → AV) : ∀ (keys : List Nat) (i : Nat), tmOf keys (keys.map tm) i = .top ∨ (tmOf keys (keys.map tm) i = tm i ∧ ∃ j : Nat, (keys.map tm)[j]? = some (tm i))
  | [], _ => .inl rfl
  | k :: ks, i => by
    simp only [List.map_cons, tmOf]
    by_cases h : i = k
    · subst h
      right
      exact ⟨by simp, 0, rfl⟩
    · rw [beq_ne h, cond_false]
      rcases tmOf_snap tm ks i with h1 | ⟨h1, j, h2⟩
      · exact .inl h1
      · exact .inr ⟨h1, j + 1, by simpa using h2⟩
theorem hpOf_snap (hp : Heap) : ∀ (ids : List Nat) (i : Nat) (b : Blk), hpOf ids (ids.map hp) i = some b → hp i = some b ∧ i ∈ ids
  | [], _, _, h => by simp [hpOf] at h
  | k :: ks, i, b, h => by
    simp only [List.map_cons, hpOf] at h
    by_cases hk : i = k
    · subst hk
      simp at h
      exact ⟨h, by simp⟩
    · rw [beq_ne hk, cond_false] at h
      obtain ⟨h1, h2⟩ := hpOf_snap hp ks i b h
      exact ⟨h1, by simp [h2]⟩

/-- what does not live is forgotten -/
theorem Sat.forget {w0 : World} {σ : Nat → Option Nat} {s : St} {a : Go.Act} {w : World} (h : Sat w0 σ s a w) (lv : Lv) (hn : s.n = lv.n) (hb : snapBd lv (snap lv s) = true) : Sat w0 (cutSig lv.nx σ) (ofSnap lv (snap lv s)) a w := by
  simp only [snapBd, snap, Bool.and_eq_true] at hb
  obtain ⟨hb1, hb2, hb3⟩ := hb
  refine ⟨⟨?_, ?_, ?_, ?_⟩, fun t => ?_, h.n.trans hn, h.df, h.bl⟩
  · intro id b hid
    obtain ⟨h1, h2⟩ := hpOf_snap s.hp lv.ids id b hid
    obtain ⟨n, vs, k1, k2, k3, k4⟩ := h.h.cell id b h1
    have hlt := blt_t.1 (List.all_eq_true.1 hb3 id h2)
    have hbb : blkBd lv.nx (s.hp id) = true := List.all_eq_true.1 hb2 _ (List.mem_map.2 ⟨id, h2, rfl⟩)
    rw [h1] at hbb
    refine ⟨n, vs, ?_, k2, repL_cut _ _ hbb k3, k4⟩
    unfold cutSig; rw [if_pos hlt]; exact k1
  · intro i j n hi hj
    unfold cutSig at hi hj
    split at hi
    · split at hj
      · exact h.h.inj i j n hi hj
      · simp at hj
    · simp at hi
  · intro i hi
    show cutSig lv.nx σ i = none
    unfold cutSig; rw [if_neg]; simp only [ofSnap] at hi; omega
  · intro i n hi
    unfold cutSig at hi
    split at hi
    · exact h.h.bound i n hi
    · simp at hi
  · show Rep _ (tmOf lv.keys (lv.keys.map s.tm) t) _
    rcases tmOf_snap s.tm lv.keys t with h1 | ⟨h1, j, h2⟩
    · rw [h1]; simp only [Rep]
    · rw [h1]
      exact rep_cut _ _ (bdL_get hb1 h2) (h.tm t)
theorem cutSig_ext {n : Nat} {σ τ : Nat → Option Nat} (h : Ext σ τ) (hf : ∀ i, n ≤ i → σ i = none) : Ext σ (cutSig n τ) := by
  intro i b hi
  unfold cutSig
  rw [if_pos]
  · exact h i b hi
  · rcases Nat.lt_or_ge i n with x | x
    · exact x
    · rw [hf i x] at hi; simp at hi


def Tree.map {α β : Type} (f : α → β) : Tree α → Tree β
  | .leaf a => .leaf (f a)
  | .need p t => .need p (t.map f)
  | .br c t e => .br c (t.map f) (e.map f)
  | .fail => .fail
theorem sat_map {α β : Type} {R : β → Prop} (f : α → β) (t : Tree α) : (t.map f).sat R ↔ t.sat (fun x => R (f x)) := by
  induction t with
  | leaf a => rfl
  | need p t ih => simp only [Tree.map, Tree.sat, ih]
  | br c t e ih1 ih2 => simp only [Tree.map, Tree.sat, ih1, ih2]
  | fail => rfl
/-- the summary of a loop: where it begins in a snapshot that is known, it ends in one of some -/
def loopSum {Γ : Type} (lv : Lv) (entry : Snap → Option Γ) (fin : Γ → Tree (Exit × Snap)) (s : St) : Tree (Exit × St) :=
  bif Nat.beq s.n lv.n && Nat.beq s.nx lv.nx then
    match entry (snap lv s) with
    | some g => (fin g).map fun r => (r.1, ofSnap lv r.2)
    | none => .fail
  else .fail

theorem loopOk_of {X : Ctx} (hX : CtxOk X) (m : Nat) (L : LoopT) {c : Code} (hL : ∀ d ∈ loopsOf c, ∀ f, L (keyOf d) = some f → LoopOk X.P d f) {Γ : Type} (lv : Lv) (entry : Snap → Option Γ) (fin : Γ → Tree (Exit × Snap)) (at_ : Γ → Snap) (Inv : Γ → Prop) (μ : Γ → Nat)
    (hent : ∀ v g, entry v = some g → v = at_ g) (hbd : ∀ g, Inv g → snapBd lv (at_ g) = true) (hinv : ∀ g R, (fin g).sat R → WFL (at_ g).1 → Inv g)
    (hbody : ∀ g, Inv g → WFL (at_ g).1 → (evC X.P (evFn X m) X.pures X.u L c (ofSnap lv (at_ g)) (fun e s' => .leaf (e, Nat.beq s'.n lv.n && snapBd lv (snap lv s'), snap lv s'))).sat (fun r => r.2.1 = true ∧ match r.1 with
      | .normal => ∃ g', r.2.2 = at_ g' ∧ (WFL (at_ g').1 → Inv g' ∧ μ g' < μ g ∧ ∀ R, (fin g).sat R → (fin g').sat R)
      | e => WFL r.2.2.1 → ∀ R, (fin g).sat R → R (e, r.2.2))) :
    LoopOk X.P c (loopSum lv entry fin) := by
  intro w0 σ s a w R hS h
  simp only [loopSum] at h
  cases hc : (Nat.beq s.n lv.n && Nat.beq s.nx lv.nx) with
  | false => simp [hc, Tree.sat] at h
  | true =>
    simp only [hc, cond_true] at h
    simp only [Bool.and_eq_true, Nat.beq_eq] at hc
    obtain ⟨hn, hnx⟩ := hc
    cases he : entry (snap lv s) with
    | none => simp [he, Tree.sat] at h
    | some g =>
      simp only [he, sat_map] at h
      have hsn := hent _ _ he
      have hsz : ∀ i, lv.nx ≤ i → σ i = none := fun i hi => hS.h.fresh i (by omega)
      have wfOf : ∀ (lv : Lv) (σ : Nat → Option Nat) (s : St) (a : Go.Act) (w : World), Sat w0 σ s a w → WFL (snap lv s).1 := by
        intro lv σ s a w hS
        show WFL (lv.keys.map s.tm)
        induction lv.keys with
        | nil => simp only [List.map_nil, WFL]
        | cons k ks ih => simp only [List.map_cons, WFL]; exact ⟨rep_wf _ _ (hS.tm k), ih⟩
      have key : ∀ (n : Nat) (g : Γ) (σ' : Nat → Option Nat) (a : Go.Act) (w : World), μ g < n → Inv g → WFL (at_ g).1 → Ext σ σ' → Sat w0 σ' (ofSnap lv (at_ g)) a w → (fin g).sat (fun r => R (r.1, ofSnap lv r.2)) →
          Code.rounds X.P c (fun e a' w' => ∃ τ s', Ext σ τ ∧ Sat w0 τ s' a' w' ∧ R (e, s')) n a w := by
        intro n
        induction n with
        | zero => intro g _ _ _ h; omega
        | succ n ih =>
          intro g σ' a w hlt hI hwf hext hSg hfin
          rw [rounds_succ]
          have hw := evC_sound (α := Exit × Bool × Snap) hX.mix hX.pures (evFn_sound hX _ m) X.u L c hL σ' _ a w _ hSg (hbody g hI hwf)
          refine wp_mono hw ?_
          rintro e a' w' ⟨τ, s', hext', hS', hflag, hcase⟩
          simp only [Bool.and_eq_true, Nat.beq_eq] at hflag
          have hF := hS'.forget lv hflag.1 hflag.2
          have hwf' := wfOf lv τ s' a' w' hS'
          have hex : Ext σ (cutSig lv.nx τ) := cutSig_ext (hext.trans hext') hsz
          cases e with
          | normal =>
            obtain ⟨g', hg', hrest⟩ := hcase
            simp only at hg'
            rw [hg'] at hF hwf'
            obtain ⟨k1, k2, k3⟩ := hrest hwf'
            exact ih g' _ a' w' (by omega) k1 hwf' hex hF (k3 _ hfin)
          | exit id => exact ⟨_, _, hex, hF, hcase hwf' _ hfin⟩
          | goto l => exact ⟨_, _, hex, hF, hcase hwf' _ hfin⟩
          | ret => exact ⟨_, _, hex, hF, hcase hwf' _ hfin⟩
          | panic ch => exact ⟨_, _, hex, hF, hcase hwf' _ hfin⟩
          | outgrown => exact ⟨_, _, hex, hF, hcase hwf' _ hfin⟩
      have hwf0 := wfOf lv σ s a w hS
      rw [hsn] at hwf0
      have hI := hinv g _ h hwf0
      have hb := hbd g hI
      rw [← hsn] at hb
      have hF := hS.forget lv hn hb
      rw [hsn] at hF
      exact wp_loop_rounds (μ g + 1) (key (μ g + 1) g _ a w (by omega) hI hwf0 (cutSig_ext (Ext.refl σ) hsz) hF h)

def bodyOf (f : Func) : Code := match f.body with | some c => c | none => .skip
/-- a context with loops' summaries -/
def ctxL (P : Program) (pu : List (Nat × PureT)) (fns : List (Nat × Func)) (loops : List ((Nat × Nat) × (St → Tree (Exit × St)))) : Ctx := { P := P, u := 64, fns := fns, loops := loops, pures := pu, specs := [] }
theorem ctxL_ok {P : Program} (hm : P.follows .mixedOrders = true) {pu : List (Nat × PureT)} {fns : List (Nat × Func)} {loops : List ((Nat × Nat) × (St → Tree (Exit × St)))} (hp : PuOk P pu) (hf : ∀ p ∈ fns, FnIs P p)
    (hl : ∀ p ∈ fns, ∀ d ∈ loopsOf (bodyOf p.2), ∀ g, assoc2 loops p.1 (keyOf d) = some g → LoopOk P d g) : CtxOk (ctxL P pu fns loops) :=
  ⟨hm, hp, fun p h => ⟨(hf p h).1, (hf p h).2.1, fun c hc d hd f hfd => hl p h d (by unfold bodyOf; rw [hc]; exact hd) f hfd⟩, fun p h => by simp [ctxL] at h⟩
theorem loops_one {P : Program} {f : Nat} {fn : Func} {lb : Code} {sum : St → Tree (Exit × St)} (h1 : loopsOf (bodyOf fn) = [lb]) (h2 : LoopOk P lb sum) :
    ∀ p ∈ [(f, fn)], ∀ d ∈ loopsOf (bodyOf p.2), ∀ g, assoc2 [((f, keyOf lb), sum)] p.1 (keyOf d) = some g → LoopOk P d g := by
  intro p hp d hd g hg
  simp only [List.mem_singleton] at hp
  subst hp
  simp only at hd hg
  rw [h1, List.mem_singleton] at hd
  subst hd
  simp [assoc2] at hg
  subst hg
  exact h2
end Ev
end Go.Proofs.Ytmmhbianajpdgaa
