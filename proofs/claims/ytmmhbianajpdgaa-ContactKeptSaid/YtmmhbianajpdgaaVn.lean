/- Contracts by the tree itself: a function's result is what the tree's leaf holds. -/
import Derived.Test.YtmmhbianajpdgaaVl
namespace Go.Proofs.Ytmmhbianajpdgaa
open Go.RowKit
namespace V
def Tree.isLeaf {α : Type} : Tree α → Bool
  | .leaf _ => true
  | _ => false
def Tree.val {α : Type} (d : α) : Tree α → α
  | .leaf a => a
  | _ => d
theorem sat_val {α : Type} {d : α} {t : Tree α} (h : t.isLeaf = true) : t.sat (fun y => y = t.val d) := by
  cases t <;> simp_all [Tree.isLeaf, Tree.sat, Tree.val]
theorem sat_leafE {α : Type} {t : Tree α} {a : α} (e : t = .leaf a) : t.sat (fun y => y = a) := by subst e; exact rfl
/-- the contract that a tree makes -/
def tspec (cs rs : List TC) (T : TCTs cs → Tree (TCTs rs)) : PureT := spec cs rs (fun x => (T x).isLeaf) (fun x => (T x).val (dflts rs))
theorem q_tree {X : Ctx} (hX : CtxOk X) {f : FuncId} {cs rs : List TC} {T : TCTs cs → Tree (TCTs rs)} (m : Nat)
    (h : ∀ x : TCTs cs, evFn X m (.fn f) (encAs cs x) noHeap 0 (outK X.P rs) = T x) : PureOk X.P f (tspec cs rs T) :=
  pureOk_of_ev hX m fun x hx _ => sat_eq (h x) (sat_val hx)
theorem q_leaf {X : Ctx} (hX : CtxOk X) {f : FuncId} {cs rs : List TC} {F : TCTs cs → TCTs rs} (m : Nat)
    (h : ∀ x : TCTs cs, evFn X m (.fn f) (encAs cs x) noHeap 0 (outK X.P rs) = .leaf (F x)) : PureOk X.P f (spec cs rs (fun _ => true) F) :=
  pureOk_of_ev hX m fun x _ _ => sat_leafE (h x)
theorem q_by {X : Ctx} (hX : CtxOk X) {f : FuncId} {cs rs : List TC} {ok : TCTs cs → Bool} {F : TCTs cs → TCTs rs} (m : Nat) (T : TCTs cs → Tree (TCTs rs))
    (hT : ∀ x : TCTs cs, evFn X m (.fn f) (encAs cs x) noHeap 0 (outK X.P rs) = T x) (h : ∀ x, ok x = true → WFDs cs x → (T x).sat (fun y => y = F x)) : PureOk X.P f (spec cs rs ok F) :=
  pureOk_of_ev hX m fun x hx hw => sat_eq (hT x) (h x hx hw)
theorem law_by {X : Ctx} {f : FuncId} {cs : List TC} (m : Nat) (T : TCTs cs → Tree Unit) (hT : ∀ y : TCTs cs, evFn X m (.fn f) (encAs cs y) noHeap 0 lawK = T y) (h : ∀ y : TCTs cs, WFDs cs y → (T y).sat (fun _ => True)) :
    ∀ y : TCTs cs, WFDs cs y → (evFn X m (.fn f) (encAs cs y) noHeap 0 lawK).sat (fun _ => True) := fun y hw => sat_eq (hT y) (h y hw)
/-- a function from a pointer to one of its parts: it reads nothing -/
def ptrRun (o : Nat) : List AV → Option (Bool × AV)
  | [.ptr id row st col] => some (true, .ptr id row st (col + o))
  | _ => none
def ptrAt (o : Nat) : PureT := ⟨ptrRun o, true⟩
def ptrK (v : Out) (_ : Heap) (_ : Nat) : Tree AV := match v with
  | .ret x => .leaf x
  | .pan _ => .fail
theorem repl_ptr {σ : Env} {id row st col : Nat} {us : List Value} (h : RepL σ [.ptr id row st col] us) : ∃ b, σ id = some b ∧ us = [.pointer (some ⟨b, row * st + col, none⟩)] := by
  simp only [RepL, Rep] at h
  obtain ⟨v, us', rfl, ⟨b, h1, rfl⟩, rfl⟩ := h
  exact ⟨b, h1, rfl⟩
theorem q_ptr {X : Ctx} (hX : CtxOk X) {f : FuncId} {o : Nat} (m : Nat) (h : ∀ id row st col, evFn X m (.fn f) [.ptr id row st col] noHeap (id + 1) ptrK = .leaf (.ptr id row st (col + o))) : PureOk X.P f (ptrAt o) := by
  intro σ w xs us r hbd hm hu hg
  simp only [ptrAt, ptrRun] at hg
  split at hg <;> try (simp at hg; done)
  rename_i id row st col
  simp only [Option.some.injEq, Prod.mk.injEq, true_and] at hg
  subst hg
  obtain ⟨b, hb, rfl⟩ := repl_ptr hu
  have hH : HRel w.heap.size (⟨fun i => if i = id then some b else none, fun _ _ => none, fun _ => none, fun _ _ => none⟩ : Env) noHeap (id + 1) w := by
    refine ⟨fun _ _ h => by simp [noHeap] at h, fun _ _ _ h => absurd rfl h, fun i hi => ⟨?_, rfl, rfl⟩, fun i n hn => ?_, fun _ _ _ h => (by cases h), fun _ _ h => absurd rfl h, fun _ _ _ h => (by cases h)⟩
    · show (if i = id then some b else none) = none
      rw [if_neg (by omega)]
    · change (if i = id then some b else none) = some n at hn
      split at hn
      · cases hn; exact hbd id b hb
      · cases hn
  have hu' : RepL (⟨fun i => if i = id then some b else none, fun _ _ => none, fun _ => none, fun _ _ => none⟩ : Env) [.ptr id row st col] [.pointer (some ⟨b, row * st + col, none⟩)] := by
    simp only [RepL, Rep]; exact ⟨_, _, rfl, ⟨b, by simp, rfl⟩, rfl⟩
  obtain ⟨_, hcalls⟩ := evFn_sound hX (fun y => y = .ptr id row st (col + o)) m w _ noHeap (id + 1) w (.fn f) _ _ ptrK hH (Below.refl _ w) hu' (by rw [h]; exact rfl)
  refine hcalls.mono ?_
  rintro e w' ⟨y, τ, hp', nx', k1, k2, k3, k4, k5⟩
  cases y with
  | pan z => simp [ptrK, Tree.sat] at k5
  | ret z =>
    simp only [ptrK, Tree.sat] at k5
    subst k5
    cases e with
    | returned v =>
      have k4' : Rep τ (.ptr id row st (col + o)) v := k4
      simp only [Rep] at k4'
      obtain ⟨b', h1, rfl⟩ := k4'
      have h2 : τ id = some b := k1.1 id b (by simp)
      rw [h2] at h1; cases h1
      exact ⟨_, σ.mem, rfl, hm.keep fun n _ _ hv => k3.block n (cell_lt (hm _ _ _ hv)), fun _ _ _ k => k, fun _ _ _ k => .inl k, fun hf => by simp [ptrAt] at hf, fun _ τ' he => by simp only [Rep]; exact ⟨b, he id b hb, rfl⟩, k3⟩
    | panicked c => exact k4.elim
    | outgrown => exact k4.elim
/-- a contract in other words -/
theorem q_weak {P : Program} {f : FuncId} {cs rs : List TC} {ok ok' : TCTs cs → Bool} {F F' : TCTs cs → TCTs rs} (h : PureOk P f (spec cs rs ok F)) (hw : ∀ x, WFDs cs x → ok' x = true → ok x = true ∧ F' x = F x) : PureOk P f (spec cs rs ok' F') := by
  intro σ w xs us r hbd hm hu hg
  simp only [spec] at hg
  cases hd : decAs cs xs with
  | none => simp [hd] at hg
  | some x =>
    simp only [hd, Option.some.injEq, Prod.mk.injEq] at hg
    obtain ⟨hok, rfl⟩ := hg
    obtain ⟨h1, h2⟩ := hw x (decAs_enc hd hu σ (.inl rfl)).2 hok
    exact h σ w xs us _ hbd hm hu (by simp only [spec, hd, h1, h2])
end V
end Go.Proofs.Ytmmhbianajpdgaa
