/- Loops by summary: the state at a loop's head as data; a loop is its step, over and over. -/
import Derived.Test.YtgchccljmjmibaaVE
import Derived.OpenShut
import Derived.Carry
namespace Go.Proofs.Ytgchccljmjmibaa
open Go.RowKit
namespace V

/-- the kinds of values at a loop's head -/
inductive SK where
  | d (c : TC)
  | o (ty : TypeId) (c : TC)
  | p (id row st col : Nat)
  | r (c : TC) (col : Nat)
  | f (f : Nat) (a c : List SK)
  | ag (ks : List SK)
  | y (id : Nat)
  | q (id : Nat)
  | m (kc vc : TC)
  | i (t : TypeId) (k : IntKind)
  | w (id : Nat) (ty : TypeId) (c : TC)
  | sli (id off st len cap : Nat)
mutual
@[reducible] def SKT : SK → Type
  | .d c => TCT c
  | .o _ c => List (TCT c)
  | .p _ _ _ _ => Unit
  | .r c _ => TCT c
  | .f _ a c => SKTs a × SKTs c
  | .ag ks => SKTs ks
  | .y _ => Unit
  | .q _ => Unit
  | .m kc vc => TCT kc → Option (TCT vc)
  | .i _ _ => Int
  | .w _ _ c => List (TCT c)
  | .sli _ _ _ _ _ => Unit
@[reducible] def SKTs : List SK → Type
  | [] => Unit
  | k :: ks => SKT k × SKTs ks
end
mutual
def cntK : SK → Nat
  | .o _ _ => 1
  | .f _ a c => cntKs a + cntKs c
  | .ag ks => cntKs ks
  | _ => 0
def cntKs : List SK → Nat
  | [] => 0
  | k :: ks => cntK k + cntKs ks
end
mutual
def ofK : (k : SK) → SKT k → Nat → AV
  | .d c, y, _ => encA c y
  | .o _ _, _, m => .own m
  | .p id row st col, _, _ => .ptr id row st col
  | .r c col, y, _ => .rop c y col
  | .f f a c, y, m => .fn (.func f) (ofKs a y.1 m) (ofKs c y.2 (m + cntKs a))
  | .ag ks, y, m => .agg (ofKs ks y m)
  | .y id, _, _ => .yld id
  | .q id, _, _ => .mp id
  | .m _ _, _, _ => .top
  | .i t k, y, _ => .ifc t (.int k y)
  | .w id _ _, _, _ => .own id
  | .sli id off st len cap, _, _ => .sl id off st len cap
def ofKs : (ks : List SK) → SKTs ks → Nat → List AV
  | [], _, _ => []
  | k :: ks, y, m => ofK k y.1 m :: ofKs ks y.2 (m + cntK k)
end
mutual
def arrK : (k : SK) → SKT k → List Arr
  | .d _, _ => []
  | .o ty c, y => [⟨ty, c, y⟩]
  | .p _ _ _ _, _ => []
  | .r _ _, _ => []
  | .f _ a c, y => arrKs a y.1 ++ arrKs c y.2
  | .ag ks, y => arrKs ks y
  | .y _, _ => []
  | .q _, _ => []
  | .m _ _, _ => []
  | .i _ _, _ => []
  | .w _ _ _, _ => []
  | .sli _ _ _ _ _, _ => []
def arrKs : (ks : List SK) → SKTs ks → List Arr
  | [], _ => []
  | k :: ks, y => arrK k y.1 ++ arrKs ks y.2
end
/-! lists that keep their numbers -/
mutual
def fixK : (k : SK) → SKT k → List (Nat × Arr)
  | .f _ a c, y => fixKs a y.1 ++ fixKs c y.2
  | .ag ks, y => fixKs ks y
  | .w id ty c, y => [(id, ⟨ty, c, y⟩)]
  | .d _, _ => []
  | .o _ _, _ => []
  | .p _ _ _ _, _ => []
  | .r _ _, _ => []
  | .y _, _ => []
  | .q _, _ => []
  | .m _ _, _ => []
  | .i _ _, _ => []
  | .sli _ _ _ _ _, _ => []
def fixKs : (ks : List SK) → SKTs ks → List (Nat × Arr)
  | [], _ => []
  | k :: ks, y => fixK k y.1 ++ fixKs ks y.2
end
def findA : List (Nat × Arr) → Nat → Option Arr
  | [], _ => none
  | p :: l, i => bif Nat.beq i p.1 then some p.2 else findA l i
theorem findA_mem : ∀ {l : List (Nat × Arr)} {i : Nat} {A : Arr}, findA l i = some A → (i, A) ∈ l
  | [], _, _, h => by simp [findA] at h
  | p :: l, i, A, h => by
    simp only [findA] at h
    cases hb : Nat.beq i p.1 with
    | true =>
      rw [hb, cond_true] at h
      simp only [Option.some.injEq] at h
      have e := Nat.eq_of_beq_eq_true hb
      subst h; subst e
      exact List.mem_cons_self
    | false =>
      rw [hb, cond_false] at h
      exact List.mem_cons_of_mem _ (findA_mem h)
mutual
def WFK : (k : SK) → SKT k → Prop
  | .d c, y => WFD c y
  | .o _ c, y => (y.length : Int) ≤ maxK .i64 ∧ ∀ x ∈ y, WFD c x
  | .p _ _ _ _, _ => True
  | .r c _, y => WFD c y
  | .f _ a c, y => WFKs a y.1 ∧ WFKs c y.2
  | .ag ks, y => WFKs ks y
  | .y _, _ => True
  | .q _, _ => True
  | .m _ vc, g => ∀ k v, g k = some v → WFD vc v
  | .i _ k, y => inK k y
  | .w _ _ c, y => (y.length : Int) ≤ maxK .i64 ∧ ∀ x ∈ y, WFD c x
  | .sli _ _ _ _ _, _ => True
def WFKs : (ks : List SK) → SKTs ks → Prop
  | [], _ => True
  | k :: ks, y => WFK k y.1 ∧ WFKs ks y.2
end
abbrev Roots := List (Option Nat)
section
variable (nx : Nat) (hp : Heap)
def toO (ty : TypeId) (c : TC) : AV → Option (List (TCT c) × Roots)
  | .own id => match hp id with
    | some (.arr A) => bif Nat.beq A.ty ty then (castL A.c c A.xs).map fun xs => (xs, [some id]) else none
    | _ => none
  | .val (.slice none 0 0) => bif Nat.blt 0 c.size then some ([], [none]) else none
  | _ => none
def toP (id row st col : Nat) : AV → Option (Unit × Roots)
  | .ptr id' row' st' col' => bif Nat.blt id nx && (Nat.beq id' id && (Nat.beq row' row && (Nat.beq st' st && Nat.beq col' col))) then some ((), []) else none
  | _ => none
def toSl (id off st len cap : Nat) : AV → Option (Unit × Roots)
  | .sl id' off' st' len' cap' => bif Nat.blt id nx && (Nat.beq id' id && (Nat.beq off' off && (Nat.beq st' st && (Nat.beq len' len && Nat.beq cap' cap)))) then some ((), []) else none
  | _ => none
def toRp (c : TC) (col : Nat) : AV → Option (TCT c × Roots)
  | .rop d x col' => bif Nat.beq col' col then match castL d c [x] with
      | some [y] => some (y, [])
      | _ => none
    else none
  | _ => none
def toY (id : Nat) : AV → Option (Unit × Roots)
  | .yld id' => bif Nat.blt id nx && Nat.beq id' id then some ((), []) else none
  | _ => none
def toQ (id : Nat) : AV → Option (Unit × Roots)
  | .mp id' => bif Nat.blt id nx && Nat.beq id' id then some ((), []) else none
  | _ => none
def toI (t : TypeId) (k : IntKind) : AV → Option (Int × Roots)
  | .ifc t' (.int k' n) => bif Nat.beq t' t && decide (k' = k) then some (n, []) else none
  | _ => none
def toW (id : Nat) (ty : TypeId) (c : TC) : AV → Option (List (TCT c) × Roots)
  | .own id' => bif Nat.blt id nx && Nat.beq id' id then match hp id with
      | some (.arr A) => bif Nat.beq A.ty ty then (castL A.c c A.xs).map fun xs => (xs, []) else none
      | _ => none
    else none
  | _ => none
def asFn (f : Nat) : AV → Option (List AV × List AV)
  | .fn (.func g) a c => bif Nat.beq g f then some (a, c) else none
  | _ => none
def asAgg : AV → Option (List AV)
  | .agg cs => some cs
  | _ => none
mutual
def toK : (k : SK) → AV → Option (SKT k × Roots)
  | .d c, x => (decA c x).map fun y => (y, [])
  | .o ty c, x => toO hp ty c x
  | .p id row st col, x => toP nx id row st col x
  | .r c col, x => toRp c col x
  | .f f a c, x => match asFn f x with
    | some (u, v) => match toKs a u, toKs c v with
      | some (y, r1), some (z, r2) => some ((y, z), r1 ++ r2)
      | _, _ => none
    | none => none
  | .ag ks, x => match asAgg x with
    | some cs => toKs ks cs
    | none => none
  | .y id, x => toY nx id x
  | .q id, x => toQ nx id x
  | .m _ _, _ => none
  | .i t k, x => toI t k x
  | .w id ty c, x => toW nx hp id ty c x
  | .sli id off st len cap, x => toSl nx id off st len cap x
def toKs : (ks : List SK) → List AV → Option (SKTs ks × Roots)
  | [], xs => match xs with
    | [] => some ((), [])
    | _ => none
  | k :: ks, xs => match xs with
    | [] => none
    | x :: xs => match toK k x, toKs ks xs with
      | some (y, r1), some (z, r2) => some ((y, z), r1 ++ r2)
      | _, _ => none
end
end

/-- the roots' slices and blocks are those of the numbers from m on -/
def Rooted (σ τ : Env) (m : Nat) (rs : Roots) : Prop :=
  ∀ (j : Nat) (r : Option Nat), rs[j]? = some r → match r with
    | some id => τ (m + j) = σ id ∧ τ.sv (m + j) = σ.sv id
    | none => τ (m + j) = none ∧ τ.sv (m + j) = some (.slice none 0 0)
theorem Rooted.left {σ τ : Env} {m : Nat} {a b : Roots} (h : Rooted σ τ m (a ++ b)) : Rooted σ τ m a := fun j r hj => h j r (by rw [List.getElem?_append_left (List.getElem?_eq_some_iff.1 hj).1]; exact hj)
theorem Rooted.right {σ τ : Env} {m : Nat} {a b : Roots} (h : Rooted σ τ m (a ++ b)) : Rooted σ τ (m + a.length) b := fun j r hj => by
  have := h (a.length + j) r (by rw [List.getElem?_append_right (by omega)]; simpa using hj)
  simpa only [Nat.add_assoc] using this

theorem castL_arr {ty : TypeId} {c : TC} {A : Arr} {xs : List (TCT c)} (h : castL A.c c A.xs = some xs) (ht : A.ty = ty) : A = ⟨ty, c, xs⟩ := by
  obtain ⟨t, d, ys⟩ := A
  simp only at h ht
  subst ht
  unfold castL at h
  split at h <;> try (simp at h; done)
  rename_i hb
  have := TC.beq_eq d c hb
  subst this
  simp only [Option.some.injEq] at h
  subst h
  rfl
/-- what the roots hold -/
def RootOk (hp : Heap) (r : Option Nat) (A : Arr) : Prop :=
  match r with
  | some id => hp id = some (.arr A)
  | none => A.xs = [] ∧ 0 < A.c.size
/-- what follows from a reading -/
structure ReadK (σ : Env) (hp : Heap) (nx : Nat) (rs : Roots) (as : List Arr) (n : Nat) : Prop where
  len : rs.length = n
  alen : as.length = n
  ok : ∀ (j : Nat) (r : Option Nat) (A : Arr), rs[j]? = some r → as[j]? = some A → RootOk hp r A
theorem ReadK.append {σ : Env} {hp : Heap} {nx : Nat} {r1 r2 : Roots} {a1 a2 : List Arr} {n1 n2 : Nat} (h1 : ReadK σ hp nx r1 a1 n1) (h2 : ReadK σ hp nx r2 a2 n2) : ReadK σ hp nx (r1 ++ r2) (a1 ++ a2) (n1 + n2) := by
  refine ⟨by simp [h1.len, h2.len], by simp [h1.alen, h2.alen], fun j r A hr hA => ?_⟩
  rcases Nat.lt_or_ge j n1 with hlt | hge
  · rw [List.getElem?_append_left (by rw [h1.len]; exact hlt)] at hr
    rw [List.getElem?_append_left (by rw [h1.alen]; exact hlt)] at hA
    exact h1.ok j r A hr hA
  · rw [List.getElem?_append_right (by rw [h1.len]; exact hge), h1.len] at hr
    rw [List.getElem?_append_right (by rw [h1.alen]; exact hge), h1.alen] at hA
    exact h2.ok _ r A hr hA
theorem ReadK.nil {σ : Env} {hp : Heap} {nx : Nat} : ReadK σ hp nx [] [] 0 := ⟨rfl, rfl, fun j r A h => by simp at h⟩

theorem toO_ok {σ : Env} {hp : Heap} {nx : Nat} {ty : TypeId} {c : TC} {x : AV} {y : List (TCT c)} {rs : Roots} (h : toO hp ty c x = some (y, rs)) : ReadK σ hp nx rs [⟨ty, c, y⟩] 1 := by
  unfold toO at h
  split at h
  · rename_i id
    split at h <;> try (simp at h; done)
    rename_i A hA
    cases hb : Nat.beq A.ty ty with
    | false => simp [hb] at h
    | true =>
      rw [hb, cond_true] at h
      cases hc : castL A.c c A.xs with
      | none => simp [hc] at h
      | some ys =>
        simp only [hc, Option.map_some, Option.some.injEq, Prod.mk.injEq] at h
        obtain ⟨rfl, rfl⟩ := h
        refine ⟨rfl, rfl, fun j r B hr hB => ?_⟩
        cases j with
        | zero =>
          simp at hr hB
          subst hr hB
          simp only [RootOk]
          rw [hA, castL_arr hc (Nat.eq_of_beq_eq_true hb)]
        | succ j => simp at hr
  · cases hb : Nat.blt 0 c.size with
    | false => rw [hb] at h; simp at h
    | true =>
      rw [hb, cond_true] at h
      simp only [Option.some.injEq, Prod.mk.injEq] at h
      obtain ⟨rfl, rfl⟩ := h
      refine ⟨rfl, rfl, fun j r B hr hB => ?_⟩
      cases j with
      | zero =>
        simp at hr hB
        subst hr hB
        exact ⟨rfl, blt_t.1 hb⟩
      | succ j => simp at hr
  · simp at h
theorem toO_rep {σ τ : Env} {hp : Heap} {ty : TypeId} {c : TC} {x : AV} {y : List (TCT c)} {rs : Roots} {v : Value} {m : Nat} (h : toO hp ty c x = some (y, rs)) (hv : Rep σ x v) (hr : Rooted σ τ m rs) : Rep τ (.own m) v := by
  unfold toO at h
  split at h
  · rename_i id
    split at h <;> try (simp at h; done)
    rename_i A hA
    cases hb : Nat.beq A.ty ty with
    | false => simp [hb] at h
    | true =>
      rw [hb, cond_true] at h
      cases hc : castL A.c c A.xs with
      | none => simp [hc] at h
      | some ys =>
        simp only [hc, Option.map_some, Option.some.injEq, Prod.mk.injEq] at h
        obtain ⟨rfl, rfl⟩ := h
        have := (hr 0 _ rfl).2
        simp only [Rep] at hv ⊢
        exact ⟨this.trans hv.1, hv.2⟩
  · cases hb : Nat.blt 0 c.size with
    | false => rw [hb] at h; simp at h
    | true =>
      rw [hb, cond_true] at h
      simp only [Option.some.injEq, Prod.mk.injEq] at h
      obtain ⟨rfl, rfl⟩ := h
      have := (hr 0 _ rfl).2
      simp only [Rep] at hv ⊢
      subst hv
      exact ⟨this, none, 0, 0, rfl⟩
  · simp at h
theorem toO_wf {B : Nat} {σ : Env} {hp : Heap} {nx : Nat} {w : World} (hh : HRel B σ hp nx w) {ty : TypeId} {c : TC} {x : AV} {y : List (TCT c)} {rs : Roots} (h : toO hp ty c x = some (y, rs)) : (y.length : Int) ≤ maxK .i64 ∧ ∀ x ∈ y, WFD c x := by
  have hk := toO_ok (σ := σ) (nx := nx) h
  match rs, hk with
  | [r], hk =>
    have h1 := hk.ok 0 r _ rfl rfl
    cases r with
    | none => simp only [RootOk] at h1; rw [h1.1]; simp [maxK]
    | some id =>
      obtain ⟨v, us, _, k2, k3, _, _⟩ := hh.ob id _ h1
      refine ⟨?_, LR.allx (fun x vs k => RepD.wf c x vs k) k3⟩
      rcases k2.2 with k | ⟨g, cap, cur, _, _, _, k4, k5, _⟩
      · simp only at k; rw [k.2]; simp [maxK]
      · simp only [maxLen] at k5; simp only at k4; simp only [maxK]; omega
  | [], hk => have := hk.len; simp at this
  | _ :: _ :: _, hk => have := hk.len; simp at this

section
variable {B : Nat} {σ τ : Env} {hp : Heap} {nx nx' : Nat} {w : World}
theorem toP_spec {id row st col : Nat} {x : AV} {y : Unit × Roots} (h : toP nx id row st col x = some y) : y = ((), []) ∧ x = .ptr id row st col ∧ id < nx := by
  unfold toP at h
  split at h <;> try (simp at h; done)
  rename_i id' row' st' col'
  cases hb : (Nat.blt id nx && (Nat.beq id' id && (Nat.beq row' row && (Nat.beq st' st && Nat.beq col' col)))) with
  | false => simp [hb] at h
  | true =>
    rw [hb, cond_true] at h
    simp only [Bool.and_eq_true, Nat.beq_eq, blt_t] at hb
    obtain ⟨h1, rfl, rfl, rfl, rfl⟩ := hb
    simp only [Option.some.injEq] at h
    exact ⟨h.symm, rfl, h1⟩
theorem toSl_spec {id off st len cap : Nat} {x : AV} {y : Unit × Roots} (h : toSl nx id off st len cap x = some y) : y = ((), []) ∧ x = .sl id off st len cap ∧ id < nx := by
  unfold toSl at h
  split at h <;> try (simp at h; done)
  rename_i id' off' st' len' cap'
  cases hb : (Nat.blt id nx && (Nat.beq id' id && (Nat.beq off' off && (Nat.beq st' st && (Nat.beq len' len && Nat.beq cap' cap))))) with
  | false => simp [hb] at h
  | true =>
    rw [hb, cond_true] at h
    simp only [Bool.and_eq_true, Nat.beq_eq, blt_t] at hb
    obtain ⟨h1, rfl, rfl, rfl, rfl, rfl⟩ := hb
    simp only [Option.some.injEq] at h
    exact ⟨h.symm, rfl, h1⟩
theorem toY_spec {id : Nat} {x : AV} {y : Unit × Roots} (h : toY nx id x = some y) : y = ((), []) ∧ x = .yld id ∧ id < nx := by
  unfold toY at h
  split at h <;> try (simp at h; done)
  rename_i id'
  cases hb : (Nat.blt id nx && Nat.beq id' id) with
  | false => simp [hb] at h
  | true =>
    rw [hb, cond_true] at h
    simp only [Bool.and_eq_true, Nat.beq_eq, blt_t] at hb
    obtain ⟨h1, rfl⟩ := hb
    simp only [Option.some.injEq] at h
    exact ⟨h.symm, rfl, h1⟩
theorem toQ_spec {id : Nat} {x : AV} {y : Unit × Roots} (h : toQ nx id x = some y) : y = ((), []) ∧ x = .mp id ∧ id < nx := by
  unfold toQ at h
  split at h <;> try (simp at h; done)
  rename_i id'
  cases hb : (Nat.blt id nx && Nat.beq id' id) with
  | false => rw [hb] at h; simp at h
  | true =>
    rw [hb] at h
    simp only [Bool.and_eq_true, Nat.beq_eq, blt_t] at hb
    simp only [cond_true, Option.some.injEq] at h
    exact ⟨h.symm, by rw [hb.2], hb.1⟩
theorem toRp_spec {c : TC} {col : Nat} {x : AV} {y : TCT c} {rs : Roots} (h : toRp c col x = some (y, rs)) : rs = [] ∧ x = .rop c y col := by
  unfold toRp at h
  split at h <;> try (simp at h; done)
  rename_i d z col'
  cases hb : Nat.beq col' col with
  | false => simp [hb] at h
  | true =>
    rw [hb, cond_true] at h
    split at h <;> try (simp at h; done)
    rename_i u hu
    simp only [Option.some.injEq, Prod.mk.injEq] at h
    obtain ⟨rfl, rfl⟩ := h
    refine ⟨rfl, ?_⟩
    have hc := Nat.eq_of_beq_eq_true hb
    subst hc
    unfold castL at hu
    split at hu <;> try (simp at hu; done)
    rename_i hbe
    have := TC.beq_eq d c hbe
    subst this
    simp only [Option.some.injEq, List.cons.injEq, and_true] at hu
    subst hu
    rfl
theorem toI_spec {t : TypeId} {k : IntKind} {x : AV} {y : Int} {rs : Roots} (h : toI t k x = some (y, rs)) : rs = [] ∧ x = .ifc t (.int k y) := by
  unfold toI at h
  split at h <;> try (simp at h; done)
  rename_i t' k' n
  cases hb : (Nat.beq t' t && decide (k' = k)) with
  | false => rw [hb] at h; simp at h
  | true =>
    rw [hb] at h
    simp only [Bool.and_eq_true, Nat.beq_eq, decide_eq_true_eq] at hb
    simp only [cond_true, Option.some.injEq, Prod.mk.injEq] at h
    obtain ⟨rfl, rfl⟩ := h
    exact ⟨rfl, by rw [hb.1, hb.2]⟩
theorem toW_spec {id : Nat} {ty : TypeId} {c : TC} {x : AV} {y : List (TCT c)} {rs : Roots} (h : toW nx hp id ty c x = some (y, rs)) : rs = [] ∧ x = .own id ∧ id < nx ∧ hp id = some (.arr ⟨ty, c, y⟩) := by
  unfold toW at h
  split at h <;> try (simp at h; done)
  rename_i id'
  cases hb : (Nat.blt id nx && Nat.beq id' id) with
  | false => rw [hb] at h; simp at h
  | true =>
    rw [hb] at h
    simp only [Bool.and_eq_true, Nat.beq_eq, blt_t] at hb
    simp only [cond_true] at h
    split at h <;> try (simp at h; done)
    rename_i A hA
    cases ht : Nat.beq A.ty ty with
    | false => rw [ht] at h; simp at h
    | true =>
      rw [ht, cond_true] at h
      cases hc : castL A.c c A.xs with
      | none => rw [hc] at h; simp at h
      | some ys =>
        rw [hc] at h
        simp only [Option.map_some, Option.some.injEq, Prod.mk.injEq] at h
        obtain ⟨rfl, rfl⟩ := h
        exact ⟨rfl, by rw [hb.2], hb.1, by rw [hA, castL_arr hc (Nat.eq_of_beq_eq_true ht)]⟩
theorem toW_wf (hh : HRel B σ hp nx' w) {id : Nat} {ty : TypeId} {c : TC} {x : AV} {y : List (TCT c)} {rs : Roots} (h : toW nx hp id ty c x = some (y, rs)) : (y.length : Int) ≤ maxK .i64 ∧ ∀ x ∈ y, WFD c x := by
  obtain ⟨_, _, _, h1⟩ := toW_spec h
  obtain ⟨v, us, _, k2, k3, _, _⟩ := hh.ob id _ h1
  refine ⟨?_, LR.allx (fun x vs k => RepD.wf c x vs k) k3⟩
  rcases k2.2 with k | ⟨g, cap, cur, _, _, _, k4, k5, _⟩
  · simp only at k; rw [k.2]; simp [maxK]
  · simp only [maxLen] at k5; simp only at k4; simp only [maxK]; omega
theorem asFn_spec {f : Nat} {x : AV} {u v : List AV} (h : asFn f x = some (u, v)) : x = .fn (.func f) u v := by
  unfold asFn at h
  split at h <;> try (simp at h; done)
  rename_i g a c
  cases hb : Nat.beq g f with
  | false => simp [hb] at h
  | true =>
    rw [hb, cond_true] at h
    simp only [Option.some.injEq, Prod.mk.injEq] at h
    obtain ⟨rfl, rfl⟩ := h
    have hc := Nat.eq_of_beq_eq_true hb
    subst hc
    rfl
theorem asAgg_spec {x : AV} {u : List AV} (h : asAgg x = some u) : x = .agg u := by
  unfold asAgg at h
  split at h <;> try (simp at h; done)
  simp only [Option.some.injEq] at h
  subst h; rfl

mutual
theorem toK_ok : ∀ (k : SK) {x : AV} {y : SKT k} {rs : Roots}, toK nx hp k x = some (y, rs) → ReadK σ hp nx rs (arrK k y) (cntK k)
  | .d c, x, y, rs, h => by
    simp only [toK] at h
    cases hd : decA c x with
    | none => simp [hd] at h
    | some z => simp only [hd, Option.map_some, Option.some.injEq, Prod.mk.injEq] at h; obtain ⟨rfl, rfl⟩ := h; simp only [arrK, cntK]; exact .nil
  | .o ty c, x, y, rs, h => by simp only [toK] at h; simp only [arrK, cntK]; exact toO_ok h
  | .p id row st col, x, y, rs, h => by
    simp only [toK] at h
    have := (toP_spec h).1
    simp only [Prod.mk.injEq] at this
    simp only [arrK, cntK]; rw [this.2]; exact .nil
  | .sli id off st len cap, x, y, rs, h => by
    simp only [toK] at h
    have := (toSl_spec h).1
    simp only [Prod.mk.injEq] at this
    simp only [arrK, cntK]; rw [this.2]; exact .nil
  | .r c col, x, y, rs, h => by simp only [toK] at h; simp only [arrK, cntK]; rw [(toRp_spec h).1]; exact .nil
  | .y id, x, y, rs, h => by
    simp only [toK] at h
    have := (toY_spec h).1
    simp only [Prod.mk.injEq] at this
    simp only [arrK, cntK]; rw [this.2]; exact .nil
  | .q id, x, y, rs, h => by
    simp only [toK] at h
    have := (toQ_spec h).1
    simp only [Prod.mk.injEq] at this
    simp only [arrK, cntK]; rw [this.2]; exact .nil
  | .m _ _, x, y, rs, h => by simp [toK] at h
  | .i t k, x, y, rs, h => by simp only [toK] at h; simp only [arrK, cntK]; rw [(toI_spec h).1]; exact .nil
  | .w id ty c, x, y, rs, h => by simp only [toK] at h; simp only [arrK, cntK]; rw [(toW_spec h).1]; exact .nil
  | .f f a c, x, y, rs, h => by
    simp only [toK] at h
    split at h <;> try (simp at h; done)
    rename_i u v hx
    split at h <;> try (simp at h; done)
    rename_i y1 r1 y2 r2 h1 h2
    simp only [Option.some.injEq, Prod.mk.injEq] at h
    obtain ⟨rfl, rfl⟩ := h
    simp only [arrK, cntK]
    exact (toKs_ok a h1).append (toKs_ok c h2)
  | .ag ks, x, y, rs, h => by
    simp only [toK] at h
    split at h <;> try (simp at h; done)
    simp only [arrK, cntK]
    exact toKs_ok ks h
theorem toKs_ok : ∀ (ks : List SK) {xs : List AV} {y : SKTs ks} {rs : Roots}, toKs nx hp ks xs = some (y, rs) → ReadK σ hp nx rs (arrKs ks y) (cntKs ks)
  | [], xs, y, rs, h => by
    simp only [toKs] at h
    split at h <;> try (simp at h; done)
    simp only [Option.some.injEq, Prod.mk.injEq] at h
    obtain ⟨_, rfl⟩ := h
    simp only [arrKs, cntKs]; exact .nil
  | k :: ks, xs, y, rs, h => by
    simp only [toKs] at h
    split at h <;> try (simp at h; done)
    split at h <;> try (simp at h; done)
    rename_i y1 r1 y2 r2 h1 h2
    simp only [Option.some.injEq, Prod.mk.injEq] at h
    obtain ⟨rfl, rfl⟩ := h
    simp only [arrKs, cntKs]
    exact (toK_ok k h1).append (toKs_ok ks h2)
end
mutual
theorem toK_rep (hm : τ.mem = σ.mem) (hat : ∀ i, i < nx → τ i = σ i) (hsv : ∀ i, i < nx → τ.sv i = σ.sv i) : ∀ (k : SK) {x : AV} {y : SKT k} {rs : Roots} {v : Value} {m : Nat}, toK nx hp k x = some (y, rs) → Rep σ x v → Rooted σ τ m rs → Rep τ (ofK k y m) v
  | .d c, x, y, rs, v, m, h, hv, hr => by
    simp only [toK] at h
    cases hd : decA c x with
    | none => simp [hd] at h
    | some z => simp only [hd, Option.map_some, Option.some.injEq, Prod.mk.injEq] at h; obtain ⟨rfl, rfl⟩ := h; simp only [ofK]; exact (decA_enc hd hv τ (.inl hm)).1
  | .o ty c, x, y, rs, v, m, h, hv, hr => by simp only [toK] at h; simp only [ofK]; exact toO_rep h hv hr
  | .p id row st col, x, y, rs, v, m, h, hv, hr => by
    simp only [toK] at h
    obtain ⟨_, rfl, hlt⟩ := toP_spec h
    simp only [ofK, Rep] at hv ⊢
    rw [hat id hlt]; exact hv
  | .sli id off st len cap, x, y, rs, v, m, h, hv, hr => by
    simp only [toK] at h
    obtain ⟨_, rfl, hlt⟩ := toSl_spec h
    simp only [ofK, Rep] at hv ⊢
    rw [hat id hlt]; exact hv
  | .r c col, x, y, rs, v, m, h, hv, hr => by
    simp only [toK] at h
    obtain ⟨_, rfl⟩ := toRp_spec h
    simp only [ofK, Rep] at hv ⊢
    rw [hm]; exact hv
  | .y id, x, y, rs, v, m, h, hv, hr => by
    simp only [toK] at h
    obtain ⟨_, rfl, hlt⟩ := toY_spec h
    simp only [ofK, Rep] at hv ⊢
    rw [hat id hlt]; exact hv
  | .q id, x, y, rs, v, m, h, hv, hr => by
    simp only [toK] at h
    obtain ⟨_, rfl, hlt⟩ := toQ_spec h
    simp only [ofK, Rep] at hv ⊢
    rw [hat id hlt]; exact hv
  | .m _ _, x, y, rs, v, m, h, hv, hr => by simp [toK] at h
  | .w id ty c, x, y, rs, v, m, h, hv, hr => by
    simp only [toK] at h
    obtain ⟨_, rfl, hlt, _⟩ := toW_spec h
    simp only [ofK, Rep] at hv ⊢
    rw [hsv id hlt]; exact hv
  | .i t k, x, y, rs, v, m, h, hv, hr => by
    simp only [toK] at h
    obtain ⟨_, rfl⟩ := toI_spec h
    simp only [ofK, Rep] at hv ⊢
    exact hv
  | .f f a c, x, y, rs, v, m, h, hv, hr => by
    simp only [toK] at h
    split at h <;> try (simp at h; done)
    rename_i u u' hx
    split at h <;> try (simp at h; done)
    rename_i y1 r1 y2 r2 h1 h2
    simp only [Option.some.injEq, Prod.mk.injEq] at h
    obtain ⟨rfl, rfl⟩ := h
    have := asFn_spec hx
    subst this
    simp only [ofK, Rep] at hv ⊢
    obtain ⟨p, q, k1, k2, k3⟩ := hv
    have hl := (toKs_ok (σ := σ) a h1).len
    exact ⟨p, q, toKs_rep hm hat hsv a h1 k1 hr.left, toKs_rep hm hat hsv c h2 k2 (hl ▸ hr.right), k3⟩
  | .ag ks, x, y, rs, v, m, h, hv, hr => by
    simp only [toK] at h
    split at h <;> try (simp at h; done)
    rename_i cs hx
    have := asAgg_spec hx
    subst this
    simp only [ofK, Rep] at hv ⊢
    obtain ⟨p, k1, k3⟩ := hv
    exact ⟨p, toKs_rep hm hat hsv ks h k1 hr, k3⟩
theorem toKs_rep (hm : τ.mem = σ.mem) (hat : ∀ i, i < nx → τ i = σ i) (hsv : ∀ i, i < nx → τ.sv i = σ.sv i) : ∀ (ks : List SK) {xs : List AV} {y : SKTs ks} {rs : Roots} {vs : List Value} {m : Nat}, toKs nx hp ks xs = some (y, rs) → RepL σ xs vs → Rooted σ τ m rs → RepL τ (ofKs ks y m) vs
  | [], xs, y, rs, vs, m, h, hv, hr => by
    simp only [toKs] at h
    split at h <;> try (simp at h; done)
    simp only [ofKs, RepL] at hv ⊢
    exact hv
  | k :: ks, xs, y, rs, vs, m, h, hv, hr => by
    simp only [toKs] at h
    split at h <;> try (simp at h; done)
    split at h <;> try (simp at h; done)
    rename_i y1 r1 y2 r2 h1 h2
    simp only [Option.some.injEq, Prod.mk.injEq] at h
    obtain ⟨rfl, rfl⟩ := h
    simp only [ofKs, RepL] at hv ⊢
    obtain ⟨v, us, k1, k2, k3⟩ := hv
    have hl := (toK_ok (σ := σ) k h1).len
    exact ⟨v, us, k1, toK_rep hm hat hsv k h1 k2 hr.left, toKs_rep hm hat hsv ks h2 k3 (hl ▸ hr.right)⟩
end
mutual
theorem toK_wf (hh : HRel B σ hp nx' w) : ∀ (k : SK) {x : AV} {y : SKT k} {rs : Roots} {v : Value}, toK nx hp k x = some (y, rs) → Rep σ x v → WFK k y
  | .d c, x, y, rs, v, h, hv => by
    simp only [toK] at h
    cases hd : decA c x with
    | none => simp [hd] at h
    | some z => simp only [hd, Option.map_some, Option.some.injEq, Prod.mk.injEq] at h; obtain ⟨rfl, rfl⟩ := h; simp only [WFK]; exact (decA_enc hd hv σ (.inl rfl)).2
  | .o ty c, x, y, rs, v, h, hv => by simp only [toK] at h; simp only [WFK]; exact toO_wf hh h
  | .p id row st col, x, y, rs, v, h, hv => by simp only [WFK]
  | .sli id off st len cap, x, y, rs, v, h, hv => by simp only [WFK]
  | .r c col, x, y, rs, v, h, hv => by
    simp only [toK] at h
    obtain ⟨_, rfl⟩ := toRp_spec h
    simp only [WFK, Rep] at hv ⊢
    obtain ⟨_, _, vs, _, _, h3⟩ := hv
    exact RepD.wf c y vs h3
  | .y id, x, y, rs, v, h, hv => by simp only [WFK]
  | .q id, x, y, rs, v, h, hv => by simp only [WFK]
  | .m _ _, x, y, rs, v, h, hv => by simp [toK] at h
  | .w id ty c, x, y, rs, v, h, hv => by simp only [toK] at h; simp only [WFK]; exact toW_wf hh h
  | .i t k, x, y, rs, v, h, hv => by
    simp only [toK] at h
    obtain ⟨_, rfl⟩ := toI_spec h
    simp only [WFK, Rep] at hv ⊢
    obtain ⟨_, hu, _⟩ := hv
    exact hu.2
  | .f f a c, x, y, rs, v, h, hv => by
    simp only [toK] at h
    split at h <;> try (simp at h; done)
    rename_i u u' hx
    split at h <;> try (simp at h; done)
    rename_i y1 r1 y2 r2 h1 h2
    simp only [Option.some.injEq, Prod.mk.injEq] at h
    obtain ⟨rfl, rfl⟩ := h
    have := asFn_spec hx
    subst this
    simp only [WFK, Rep] at hv ⊢
    obtain ⟨p, q, k1, k2, k3⟩ := hv
    exact ⟨toKs_wf hh a h1 k1, toKs_wf hh c h2 k2⟩
  | .ag ks, x, y, rs, v, h, hv => by
    simp only [toK] at h
    split at h <;> try (simp at h; done)
    rename_i cs hx
    have := asAgg_spec hx
    subst this
    simp only [WFK, Rep] at hv ⊢
    obtain ⟨p, k1, k3⟩ := hv
    exact toKs_wf hh ks h k1
theorem toKs_wf (hh : HRel B σ hp nx' w) : ∀ (ks : List SK) {xs : List AV} {y : SKTs ks} {rs : Roots} {vs : List Value}, toKs nx hp ks xs = some (y, rs) → RepL σ xs vs → WFKs ks y
  | [], xs, y, rs, vs, h, hv => by simp only [WFKs]
  | k :: ks, xs, y, rs, vs, h, hv => by
    simp only [toKs] at h
    split at h <;> try (simp at h; done)
    split at h <;> try (simp at h; done)
    rename_i y1 r1 y2 r2 h1 h2
    simp only [Option.some.injEq, Prod.mk.injEq] at h
    obtain ⟨rfl, rfl⟩ := h
    simp only [WFKs, RepL] at hv ⊢
    obtain ⟨v, us, k1, k2, k3⟩ := hv
    exact ⟨toK_wf hh k h1 k2, toKs_wf hh ks h2 k3⟩
end
end

mutual
theorem toK_fix {nx : Nat} {hp : Heap} : ∀ (k : SK) {x : AV} {y : SKT k} {rs : Roots}, toK nx hp k x = some (y, rs) → ∀ p ∈ fixK k y, p.1 < nx ∧ hp p.1 = some (.arr p.2)
  | .d c, x, y, rs, h, p, hp' => by simp [fixK] at hp'
  | .o ty c, x, y, rs, h, p, hp' => by simp [fixK] at hp'
  | .p id row st col, x, y, rs, h, p, hp' => by simp [fixK] at hp'
  | .sli id off st len cap, x, y, rs, h, p, hp' => by simp [fixK] at hp'
  | .r c col, x, y, rs, h, p, hp' => by simp [fixK] at hp'
  | .y id, x, y, rs, h, p, hp' => by simp [fixK] at hp'
  | .q id, x, y, rs, h, p, hp' => by simp [fixK] at hp'
  | .m _ _, x, y, rs, h, p, hp' => by simp [fixK] at hp'
  | .i t k, x, y, rs, h, p, hp' => by simp [fixK] at hp'
  | .w id ty c, x, y, rs, h, p, hp' => by
    simp only [toK] at h
    obtain ⟨_, _, h1, h2⟩ := toW_spec h
    simp only [fixK, List.mem_singleton] at hp'
    subst hp'
    exact ⟨h1, h2⟩
  | .f f a c, x, y, rs, h, p, hp' => by
    simp only [toK] at h
    split at h <;> try (simp at h; done)
    split at h <;> try (simp at h; done)
    rename_i y1 r1 y2 r2 h1 h2
    simp only [Option.some.injEq, Prod.mk.injEq] at h
    obtain ⟨rfl, rfl⟩ := h
    simp only [fixK] at hp'
    rcases List.mem_append.1 hp' with k | k
    · exact toKs_fix a h1 p k
    · exact toKs_fix c h2 p k
  | .ag ks, x, y, rs, h, p, hp' => by
    simp only [toK] at h
    split at h <;> try (simp at h; done)
    simp only [fixK] at hp'
    exact toKs_fix ks h p hp'
theorem toKs_fix {nx : Nat} {hp : Heap} : ∀ (ks : List SK) {xs : List AV} {y : SKTs ks} {rs : Roots}, toKs nx hp ks xs = some (y, rs) → ∀ p ∈ fixKs ks y, p.1 < nx ∧ hp p.1 = some (.arr p.2)
  | [], xs, y, rs, h, p, hp' => by simp [fixKs] at hp'
  | k :: ks, xs, y, rs, h, p, hp' => by
    simp only [toKs] at h
    split at h <;> try (simp at h; done)
    split at h <;> try (simp at h; done)
    rename_i y1 r1 y2 r2 h1 h2
    simp only [Option.some.injEq, Prod.mk.injEq] at h
    obtain ⟨rfl, rfl⟩ := h
    simp only [fixKs] at hp'
    rcases List.mem_append.1 hp' with k' | k'
    · exact toK_fix k h1 p k'
    · exact toKs_fix ks h2 p k'
end

/-! blocks that live -/
abbrev BK := Nat × TypeId × List SK
@[reducible] def BTs : List BK → Type
  | [] => Unit
  | b :: bs => SKTs b.2.2 × BTs bs
def cntB : List BK → Nat
  | [] => 0
  | b :: bs => cntKs b.2.2 + cntB bs
def arrB : (bs : List BK) → BTs bs → List Arr
  | [], _ => []
  | b :: bs, y => arrKs b.2.2 y.1 ++ arrB bs y.2
def fixB : (bs : List BK) → BTs bs → List (Nat × Arr)
  | [], _ => []
  | b :: bs, y => fixKs b.2.2 y.1 ++ fixB bs y.2
def WFB : (bs : List BK) → BTs bs → Prop
  | [], _ => True
  | b :: bs, y => WFKs b.2.2 y.1 ∧ WFB bs y.2
theorem EntL.wf {m : Nat → Nat → Option Value} {kc vc : TC} : ∀ {l : List (TCT kc × TCT vc)} {es : List MapEntry}, EntL m kc vc l es → ∀ p ∈ l, WFD vc p.2
  | [], _, _ => by simp
  | _ :: _, _, ⟨_, _, _, _, h3, h4⟩ => fun p hp => by
    rcases List.mem_cons.1 hp with rfl | hp
    · exact RepD.wf vc _ _ h3.d
    · exact EntL.wf h4 p hp
theorem findL_in {kc vc : TC} {k : TCT kc} : ∀ (l : List (TCT kc × TCT vc)) (i : Nat) (y : Nat × TCT vc), findL kc vc k l i = some y → ∃ p ∈ l, p.2 = y.2
  | [], _, _, h => by simp [findL] at h
  | p :: l, i, y, h => by
    simp only [findL] at h
    cases hb : beqD kc k p.1 with
    | true => rw [hb, cond_true] at h; cases h; exact ⟨p, by simp, rfl⟩
    | false =>
      rw [hb, cond_false] at h
      obtain ⟨q, h1, h2⟩ := findL_in l (i + 1) y h
      exact ⟨q, List.mem_cons_of_mem _ h1, h2⟩
theorem MapRel.wf {m : Nat → Nat → Option Value} {sv : Nat → Option Value} {kc vc : TC} {get : TCT kc → Option (TCT vc)} {ents : List (Nat × TCT kc)} {es : Array MapEntry} {clock : Nat} (h : MapRel m sv ⟨kc, vc, get, ents⟩ es clock) : ∀ k v, get k = some v → WFD vc v := by
  obtain ⟨l, k1, k2, _⟩ := h
  intro k v hk
  have := k2 k
  simp only at this
  rw [hk] at this
  obtain ⟨y, hy, hv⟩ := Option.map_eq_some_iff.1 this.symm
  obtain ⟨p, hp, hpy⟩ := findL_in l 0 y hy
  have := k1.wf p hp
  rw [hpy, hv] at this
  exact this
/-- an object that lives, out of its data: a map, or a block -/
def obOf : (ks : List SK) → SKTs ks → TypeId → Nat → Ob
  | [.m kc vc], y, _, _ => .mp ⟨kc, vc, y.1, []⟩
  | ks, y, ty, m => .blk ⟨ty, ofKs ks y m⟩
def castM (M : Mp) (kc vc : TC) : Option (TCT kc → Option (TCT vc)) :=
  if h : M.kc.beq kc = true then if h' : M.vc.beq vc = true then
    some fun k => ((TC.beq_eq _ _ h') ▸ (M.get ((TC.beq_eq _ _ h).symm ▸ k)) : Option (TCT vc)) else none else none
theorem castM_spec {M : Mp} {kc vc : TC} {g : TCT kc → Option (TCT vc)} (h : castM M kc vc = some g) : ∃ ents, M = ⟨kc, vc, g, ents⟩ := by
  obtain ⟨kc', vc', get, ents⟩ := M
  unfold castM at h
  split at h <;> try (simp at h; done)
  rename_i h1
  split at h <;> try (simp at h; done)
  rename_i h2
  have e1 := TC.beq_eq _ _ h1
  have e2 := TC.beq_eq _ _ h2
  simp only at e1 e2
  subst e1; subst e2
  simp only [Option.some.injEq] at h
  subst h
  exact ⟨ents, rfl⟩
def toOb (nx : Nat) (hp : Heap) : (ks : List SK) → TypeId → Ob → Option (SKTs ks × Roots)
  | [.m kc vc], _, .mp M => (castM M kc vc).map fun g => ((g, ()), [])
  | ks, ty, .blk b => bif Nat.beq b.ty ty then toKs nx hp ks b.cs else none
  | _, _, _ => none
def ofB : (bs : List BK) → BTs bs → Nat → Nat → Option Ob
  | [], _, _, _ => none
  | b :: bs, y, m, i => bif Nat.beq i b.1 then some (obOf b.2.2 y.1 b.2.1 m) else ofB bs y.2 (m + cntKs b.2.2) i
def toB (nx : Nat) (hp : Heap) : (bs : List BK) → Option (BTs bs × Roots)
  | [] => some ((), [])
  | b :: bs => match hp b.1 with
    | some k => bif Nat.blt b.1 nx then
        match toOb nx hp b.2.2 b.2.1 k, toB nx hp bs with
        | some (y, r1), some (z, r2) => some ((y, z), r1 ++ r2)
        | _, _ => none
      else none
    | none => none
theorem toOb_cases {nx : Nat} {hp : Heap} {ks : List SK} {ty : TypeId} {o : Ob} {y : SKTs ks} {rs : Roots} (h : toOb nx hp ks ty o = some (y, rs)) :
    (∃ b, o = .blk b ∧ b.ty = ty ∧ toKs nx hp ks b.cs = some (y, rs) ∧ ∀ m, obOf ks y ty m = .blk ⟨ty, ofKs ks y m⟩) ∨ ∃ kc vc ents, ∃ e : ks = [.m kc vc], o = .mp ⟨kc, vc, (e ▸ y : SKTs [.m kc vc]).1, ents⟩ ∧ rs = [] ∧ ∀ m, obOf ks y ty m = .mp ⟨kc, vc, (e ▸ y : SKTs [.m kc vc]).1, []⟩ := by
  unfold toOb at h
  split at h
  · rename_i kc vc M
    simp only [Option.map_eq_some_iff, Prod.mk.injEq] at h
    obtain ⟨g, hg, rfl, rfl⟩ := h
    obtain ⟨ents, rfl⟩ := castM_spec hg
    exact .inr ⟨kc, vc, ents, rfl, rfl, rfl, fun _ => rfl⟩
  · rename_i b
    cases hb : Nat.beq b.ty ty with
    | false => rw [hb] at h; simp at h
    | true =>
      rw [hb, cond_true] at h
      refine .inl ⟨b, rfl, Nat.eq_of_beq_eq_true hb, h, fun m => ?_⟩
      unfold obOf
      split
      · rename_i kc vc y' _ _
        exfalso
        cases hcs : b.cs with
        | nil => rw [hcs] at h; simp [toKs] at h
        | cons x xs => rw [hcs] at h; simp [toKs, toK] at h
      · rfl
  · cases h
theorem toB_cons {nx : Nat} {hp : Heap} {b : BK} {bs : List BK} {y : BTs (b :: bs)} {rs : Roots} (h : toB nx hp (b :: bs) = some (y, rs)) : ∃ k r1 r2, hp b.1 = some k ∧ b.1 < nx ∧ toOb nx hp b.2.2 b.2.1 k = some (y.1, r1) ∧ toB nx hp bs = some (y.2, r2) ∧ rs = r1 ++ r2 := by
  simp only [toB] at h
  split at h <;> try (simp at h; done)
  rename_i k hk
  cases hb : Nat.blt b.1 nx with
  | false => rw [hb] at h; simp at h
  | true =>
    rw [hb, cond_true] at h
    simp only [blt_t] at hb
    split at h <;> try (simp at h; done)
    rename_i y1 r1 y2 r2 h1 h2
    simp only [Option.some.injEq, Prod.mk.injEq] at h
    obtain ⟨rfl, rfl⟩ := h
    exact ⟨k, r1, r2, hk, hb, h1, h2, rfl⟩
theorem toOb_ok {σ : Env} {nx : Nat} {hp : Heap} {ks : List SK} {ty : TypeId} {o : Ob} {y : SKTs ks} {rs : Roots} (h : toOb nx hp ks ty o = some (y, rs)) : ReadK σ hp nx rs (arrKs ks y) (cntKs ks) := by
  rcases toOb_cases h with ⟨b, _, _, h1, _⟩ | ⟨kc, vc, ents, e, _, rfl, _⟩
  · exact toKs_ok _ h1
  · subst e
    exact .nil
theorem toOb_wf {B : Nat} {σ : Env} {nx nx' : Nat} {hp : Heap} {w : World} (hh : HRel B σ hp nx' w) {ks : List SK} {ty : TypeId} {id : Nat} {o : Ob} {y : SKTs ks} {rs : Roots} (ho : hp id = some o) (h : toOb nx hp ks ty o = some (y, rs)) : WFKs ks y := by
  rcases toOb_cases h with ⟨b, rfl, _, h1, _⟩ | ⟨kc, vc, ents, e, rfl, _, _⟩
  · obtain ⟨_, vs, _, _, k3, _⟩ := hh.ob _ _ ho
    exact toKs_wf hh _ h1 k3
  · subst e
    obtain ⟨_, es, clock, _, _, k3, _⟩ := hh.ob _ _ ho
    exact ⟨k3.wf, trivial⟩
theorem toOb_rep {B : Nat} {σ τ : Env} {nx nx' : Nat} {hp : Heap} {w : World} (hh : HRel B σ hp nx' w) (hm : τ.mem = σ.mem) (hat : ∀ i, i < nx → τ i = σ i) (hsv : ∀ i, i < nx → τ.sv i = σ.sv i) {ks : List SK} {ty : TypeId} {id m : Nat} {o : Ob} {y : SKTs ks} {rs : Roots} (hid : id < nx) (ho : hp id = some o) (h : toOb nx hp ks ty o = some (y, rs)) (hr : Rooted σ τ m rs) :
    (∀ A, hp id ≠ some (.arr A)) ∧ ObRel B τ w id (obOf ks y ty m) ∧ ∀ A, obOf ks y ty m ≠ .arr A := by
  rcases toOb_cases h with ⟨b, rfl, h1, h2, h3⟩ | ⟨kc, vc, ents, e, rfl, _, h3⟩
  · obtain ⟨n, vs, o1, o2, o3, o4⟩ := hh.ob _ _ ho
    rw [h3]
    exact ⟨fun A => by rw [ho]; simp, ⟨n, vs, (hat _ hid).trans o1, by rw [← h1]; exact o2, toKs_rep hm hat hsv _ h2 o3 hr, o4⟩, by simp⟩
  · subst e
    obtain ⟨n, es, clock, o1, o2, o3, o4⟩ := hh.ob _ _ ho
    rw [h3]
    refine ⟨fun A => by rw [ho]; simp, ⟨n, es, clock, (hat _ hid).trans o1, o2, ?_, o4⟩, by simp⟩
    rw [hm]
    exact o3.drop
theorem toOb_fix {nx : Nat} {hp : Heap} {ks : List SK} {ty : TypeId} {o : Ob} {y : SKTs ks} {rs : Roots} (h : toOb nx hp ks ty o = some (y, rs)) : ∀ p ∈ fixKs ks y, p.1 < nx ∧ hp p.1 = some (.arr p.2) := by
  rcases toOb_cases h with ⟨b, _, _, h1, _⟩ | ⟨kc, vc, ents, e, _, _, _⟩
  · exact toKs_fix _ h1
  · subst e
    intro p hp'
    simp [fixKs, fixK] at hp'
theorem toB_fix {nx : Nat} {hp : Heap} : ∀ (bs : List BK) {y : BTs bs} {rs : Roots}, toB nx hp bs = some (y, rs) → ∀ p ∈ fixB bs y, p.1 < nx ∧ hp p.1 = some (.arr p.2)
  | [], y, rs, h, p, hp' => by simp [fixB] at hp'
  | b :: bs, y, rs, h, p, hp' => by
    obtain ⟨k, r1, r2, _, _, k1, k2, rfl⟩ := toB_cons h
    simp only [fixB] at hp'
    rcases List.mem_append.1 hp' with k' | k'
    · exact toOb_fix k1 p k'
    · exact toB_fix bs k2 p k'
theorem toB_ok {σ : Env} {nx : Nat} {hp : Heap} : ∀ (bs : List BK) {y : BTs bs} {rs : Roots}, toB nx hp bs = some (y, rs) → ReadK σ hp nx rs (arrB bs y) (cntB bs)
  | [], y, rs, h => by
    simp only [toB, Option.some.injEq, Prod.mk.injEq] at h
    obtain ⟨_, rfl⟩ := h
    exact .nil
  | b :: bs, y, rs, h => by
    obtain ⟨k, r1, r2, _, _, k1, k2, rfl⟩ := toB_cons h
    exact (toOb_ok k1).append (toB_ok bs k2)
theorem toB_wf {B : Nat} {σ : Env} {nx nx' : Nat} {hp : Heap} {w : World} (hh : HRel B σ hp nx' w) : ∀ (bs : List BK) {y : BTs bs} {rs : Roots}, toB nx hp bs = some (y, rs) → WFB bs y
  | [], y, rs, h => trivial
  | b :: bs, y, rs, h => by
    obtain ⟨k, r1, r2, k0, _, k1, k2, rfl⟩ := toB_cons h
    exact ⟨toOb_wf hh k0 k1, toB_wf hh bs k2⟩
theorem ofB_rep {B : Nat} {σ τ : Env} {nx nx' : Nat} {hp : Heap} {w : World} (hh : HRel B σ hp nx' w) (hm : τ.mem = σ.mem) (hat : ∀ i, i < nx → τ i = σ i) (hsv : ∀ i, i < nx → τ.sv i = σ.sv i) : ∀ (bs : List BK) {y : BTs bs} {rs : Roots} {m : Nat}, toB nx hp bs = some (y, rs) → Rooted σ τ m rs →
    ∀ i o, ofB bs y m i = some o → i < nx ∧ hp i ≠ none ∧ (∀ A, hp i ≠ some (.arr A)) ∧ ObRel B τ w i o
  | [], y, rs, m, _, _, i, b, h => by simp [ofB] at h
  | k :: bs, y, rs, m, h, hr, i, b, hi => by
    obtain ⟨k', r1, r2, k0, k2, k3, k4, rfl⟩ := toB_cons h
    simp only [ofB] at hi
    by_cases he : i = k.1
    · subst he
      simp at hi
      subst hi
      have := toOb_rep hh hm hat hsv k2 k0 k3 hr.left
      exact ⟨k2, by rw [k0]; simp, this.1, this.2.1⟩
    · rw [beq_ne he, cond_false] at hi
      have hl := (toOb_ok (σ := σ) k3).len
      exact ofB_rep hh hm hat hsv bs k4 (hl ▸ hr.right) i b hi

/-! the state at a loop's head -/
structure Lay where
  keys : List Nat
  ks : List SK
  bs : List BK
  n : Nat
  nx : Nat
  marks : List Nat
  dc : List (Nat × Nat) := []
@[reducible] def Lay.T (L : Lay) : Type := SKTs L.ks × BTs L.bs
def Lay.WF (L : Lay) (g : L.T) : Prop := WFKs L.ks g.1 ∧ WFB L.bs g.2
def tmOf : List Nat → List AV → Nat → AV
  | k :: ks, x :: xs, i => bif Nat.beq i k then x else tmOf ks xs i
  | _, _, _ => .top
def memB (i : Nat) : List Nat → Bool
  | [] => false
  | j :: l => Nat.beq i j || memB i l
def Lay.hp (L : Lay) (g : L.T) : Heap := fun i =>
  bif Nat.ble L.nx i then (nth (arrKs L.ks g.1 ++ arrB L.bs g.2) (i - L.nx)).map .arr
  else bif memB i L.marks then some .dfr else match ofB L.bs g.2 (L.nx + cntKs L.ks) i with
    | some o => some o
    | none => (findA (fixKs L.ks g.1 ++ fixB L.bs g.2) i).map .arr
/-- a deferred call of a function with a pointer to one of the blocks -/
def dcA (c : Nat × Nat) : DfA := .call c.1 [.ptr c.2 0 0 0] []
def Lay.of (L : Lay) (g : L.T) : St := { tm := tmOf L.keys (ofKs L.ks g.1 L.nx), n := L.n, hp := L.hp g, nx := L.nx + (cntKs L.ks + cntB L.bs), df := L.marks.map .mark ++ L.dc.map dcA, rd := false }
def isDc (f : Nat) (args cap : List AV) (c : Nat × Nat) : Bool :=
  match args, cap with
  | [.ptr id 0 0 0], [] => Nat.beq f c.1 && Nat.beq id c.2
  | _, _ => false
def dfB : List DfA → List Nat → List (Nat × Nat) → Bool
  | [], [], [] => true
  | .mark i :: l, j :: m, d => Nat.beq i j && dfB l m d
  | .call f args cap :: l, [], c :: d => isDc f args cap c && dfB l [] d
  | _, _, _ => false
def marksB : List DfA → List Nat → Bool
  | [], [] => true
  | .mark i :: l, j :: m => Nat.beq i j && marksB l m
  | _, _ => false
def isDfr (hp : Heap) (i : Nat) : Bool := match hp i with
  | some .dfr => true
  | _ => false
def fresh1 (r : Option Nat) : Roots → Bool
  | [] => true
  | q :: l => (match r, q with
    | some i, some j => !Nat.beq i j
    | _, _ => true) && fresh1 r l
def nodupR : Roots → Bool
  | [] => true
  | r :: l => fresh1 r l && nodupR l
def freshA : List (Nat × Arr) → Roots → Bool
  | [], _ => true
  | p :: l, rs => fresh1 (some p.1) rs && freshA l rs
def Lay.to (L : Lay) (s : St) : Option L.T :=
  bif Nat.beq s.n L.n && (dfB s.df L.marks L.dc && ((L.marks.all (fun i => isDfr s.hp i && Nat.blt i L.nx) && L.dc.all (fun c => Nat.blt c.2 L.nx)) && !s.rd)) then
    match toKs L.nx s.hp L.ks (L.keys.map s.tm), toB L.nx s.hp L.bs with
    | some (y, r1), some (z, r2) => bif nodupR (r1 ++ r2) && freshA (fixKs L.ks y ++ fixB L.bs z) (r1 ++ r2) then some (y, z) else none
    | _, _ => none
  else none

theorem tmOf_rep {σ : Env} {tmps : Array Value} : ∀ (keys : List Nat) (xs : List AV), RepL σ xs (keys.map fun k => tmps.getD k undef) → ∀ t, Rep σ (tmOf keys xs t) (tmps.getD t undef)
  | [], xs, _, t => by simp only [tmOf, Rep]
  | k :: ks, [], h, t => by simp [RepL] at h
  | k :: ks, x :: xs, h, t => by
    simp only [List.map_cons, RepL, List.cons.injEq] at h
    obtain ⟨v, us, ⟨rfl, rfl⟩, h1, h2⟩ := h
    simp only [tmOf]
    by_cases he : t = k
    · subst he; simpa using h1
    · rw [beq_ne he, cond_false]; exact tmOf_rep ks xs h2 t
theorem memB_t {i : Nat} : ∀ {l : List Nat}, memB i l = true ↔ i ∈ l
  | [] => by simp [memB]
  | j :: l => by simp [memB, memB_t (l := l), Nat.beq_eq]
theorem marksB_spec : ∀ {l : List DfA} {m : List Nat}, marksB l m = true → l = m.map .mark
  | [], [], _ => rfl
  | [], _ :: _, h => by simp [marksB] at h
  | .mark i :: l, [], h => by simp [marksB] at h
  | .mark i :: l, j :: m, h => by
    simp only [marksB, Bool.and_eq_true, Nat.beq_eq] at h
    rw [h.1, marksB_spec h.2]; rfl
  | .call _ _ _ :: _, [], h => by simp [marksB] at h
  | .call _ _ _ :: _, _ :: _, h => by simp [marksB] at h
theorem isDc_spec {f : Nat} {args cap : List AV} {c : Nat × Nat} (h : isDc f args cap c = true) : DfA.call f args cap = dcA c := by
  unfold isDc at h
  split at h
  · simp only [Bool.and_eq_true, Nat.beq_eq] at h
    rw [h.1, h.2]; rfl
  · cases h
theorem dfB_spec : ∀ {l : List DfA} {m : List Nat} {d : List (Nat × Nat)}, dfB l m d = true → l = m.map .mark ++ d.map dcA
  | [], [], [], _ => rfl
  | [], [], _ :: _, h => by simp [dfB] at h
  | [], _ :: _, _, h => by simp [dfB] at h
  | .mark i :: l, [], d, h => by cases d <;> simp [dfB] at h
  | .mark i :: l, j :: m, d, h => by
    simp only [dfB, Bool.and_eq_true, Nat.beq_eq] at h
    rw [h.1, dfB_spec h.2]; rfl
  | .call _ _ _ :: _, [], [], h => by simp [dfB] at h
  | .call f args cap :: l, [], c :: d, h => by
    simp only [dfB, Bool.and_eq_true] at h
    rw [isDc_spec h.1, dfB_spec h.2]; rfl
  | .call _ _ _ :: _, _ :: _, _, h => by simp [dfB] at h
theorem isDfr_spec {hp : Heap} {i : Nat} (h : isDfr hp i = true) : hp i = some .dfr := by
  unfold isDfr at h
  split at h
  · assumption
  · simp at h
theorem fresh1_spec {i : Nat} : ∀ {l : Roots}, fresh1 (some i) l = true → ∀ j : Nat, l[j]? ≠ some (some i)
  | [], _, j => by simp
  | q :: l, h, j => by
    simp only [fresh1, Bool.and_eq_true] at h
    cases j with
    | zero =>
      simp only [List.getElem?_cons_zero]
      intro e
      simp only [Option.some.injEq] at e
      subst e
      simp at h
    | succ j => simpa using fresh1_spec h.2 j
theorem freshA_spec : ∀ {l : List (Nat × Arr)} {rs : Roots}, freshA l rs = true → ∀ p ∈ l, ∀ j : Nat, rs[j]? ≠ some (some p.1)
  | [], _, _, p, hp, _ => by simp at hp
  | q :: l, rs, h, p, hp, j => by
    simp only [freshA, Bool.and_eq_true] at h
    rcases List.mem_cons.1 hp with rfl | k
    · exact fresh1_spec h.1 j
    · exact freshA_spec h.2 p k j
theorem nodupR_spec : ∀ {l : Roots}, nodupR l = true → ∀ (j k : Nat) (i : Nat), l[j]? = some (some i) → l[k]? = some (some i) → j = k
  | [], _, j, _, _, h, _ => by simp at h
  | q :: l, h, j, k, i, hj, hk => by
    simp only [nodupR, Bool.and_eq_true] at h
    cases j with
    | zero =>
      cases k with
      | zero => rfl
      | succ k =>
        simp at hj hk
        subst hj
        exact absurd hk (fresh1_spec h.1 k)
    | succ j =>
      cases k with
      | zero =>
        simp at hj hk
        subst hk
        exact absurd hj (fresh1_spec h.1 j)
      | succ k =>
        simp at hj hk
        rw [nodupR_spec h.2 j k i hj hk]

/-- the environment at a loop's head: what lies below, and the lists from the number on -/
def cutE (nx : Nat) (σ : Env) (rs : Roots) : Env where
  at_ i := if i < nx then σ i else match rs[i - nx]? with
    | some (some id) => σ id
    | _ => none
  mem := σ.mem
  sv i := if i < nx then σ.sv i else match rs[i - nx]? with
    | some (some id) => σ.sv id
    | some none => some (.slice none 0 0)
    | none => none
  low := σ.low
  kp := σ.kp
  sz := σ.sz
  dd i := decide (i < nx) && σ.dd i
  ds i := decide (i < nx) && σ.ds i
theorem cutE_at {nx : Nat} {σ : Env} {rs : Roots} {i : Nat} (h : i < nx) : cutE nx σ rs i = σ i := by show (if i < nx then _ else _) = _; rw [if_pos h]
theorem cutE_sv {nx : Nat} {σ : Env} {rs : Roots} {i : Nat} (h : i < nx) : (cutE nx σ rs).sv i = σ.sv i := by show (if i < nx then _ else _) = _; rw [if_pos h]
theorem cutE_rooted {nx : Nat} {σ : Env} {rs : Roots} : Rooted σ (cutE nx σ rs) nx rs := by
  intro j r hj
  have h1 : ¬ nx + j < nx := by omega
  have h2 : nx + j - nx = j := by omega
  cases r with
  | some id =>
    constructor
    · show (if nx + j < nx then _ else _) = _; rw [if_neg h1, h2, hj]
    · show (if nx + j < nx then _ else _) = _; rw [if_neg h1, h2, hj]
  | none =>
    constructor
    · show (if nx + j < nx then _ else _) = _; rw [if_neg h1, h2, hj]
    · show (if nx + j < nx then _ else _) = _; rw [if_neg h1, h2, hj]
theorem cutE_rsv {nx m k : Nat} {σ : Env} {rs : Roots} (h : Rsv σ m) (hk : nx ≤ k) : Rsv (cutE nx σ rs) k := by
  have hd : ∀ i, (cutE nx σ rs).dd i = true → i < nx ∧ σ.dd i = true := fun i hi => by
    have : (decide (i < nx) && σ.dd i) = true := hi
    simpa using this
  have hs : ∀ i, (cutE nx σ rs).ds i = true → i < nx ∧ σ.ds i = true := fun i hi => by
    have : (decide (i < nx) && σ.ds i) = true := hi
    simpa using this
  refine ⟨fun i hi => ?_, fun i hi => (cutE_at (hd i hi).1).trans (h.at_ i (hd i hi).2), fun i hi => (cutE_sv (hs i hi).1).trans (h.sv i (hs i hi).2)⟩
  rcases hi with hi | hi
  · exact Nat.lt_of_lt_of_le (hd i hi).1 hk
  · exact Nat.lt_of_lt_of_le (hs i hi).1 hk
theorem cutE_ext {nx : Nat} {ρ σ : Env} {rs : Roots} (h : Ext ρ σ) (hf : ∀ i, nx ≤ i → Free ρ i) : Ext ρ (cutE nx σ rs) := by
  refine ⟨fun i b hi => ?_, h.2, fun i v hi => ?_, h.4, h.5.1, h.5.2.1, funext fun i => ?_, funext fun i => ?_⟩
  rotate_left 2
  · show (decide (i < nx) && σ.dd i) = _
    rw [h.5.2.2.1]
    rcases Nat.lt_or_ge i nx with k | k
    · simp [k]
    · rw [(hf i k).dd, Bool.and_false]
  · show (decide (i < nx) && σ.ds i) = _
    rw [h.5.2.2.2]
    rcases Nat.lt_or_ge i nx with k | k
    · simp [k]
    · rw [(hf i k).ds, Bool.and_false]
  · rcases Nat.lt_or_ge i nx with k | k
    · rw [cutE_at k]; exact h.1 i b hi
    · rw [(hf i k).at_] at hi; cases hi
  · rcases Nat.lt_or_ge i nx with k | k
    · rw [cutE_sv k]; exact h.3 i v hi
    · rw [(hf i k).sv] at hi; cases hi

theorem ObRel.arr_at {B : Nat} {σ τ : Env} {w : World} {id id' : Nat} {A : Arr} (hm : τ.mem = σ.mem) (hat : τ id' = σ id) (hsv : τ.sv id' = σ.sv id) (h : ObRel B σ w id (.arr A)) : ObRel B τ w id' (.arr A) := by
  obtain ⟨v, us, h1, h2, h3, h4, h5⟩ := h
  exact ⟨v, us, hsv.trans h1, h2, by rw [hm]; exact h3, h4, fun n => by rw [hat]; exact h5 n⟩

/-- what does not live is forgotten, and the lists are numbered anew -/
theorem Sat.forget {w0 : World} {σ : Env} {s : St} {a : Go.Act} {w : World} (h : Sat false w0 σ s a w) (L : Lay) {g : L.T} (hg : L.to s = some g) : L.WF g ∧ ∃ rs, Sat false w0 (cutE L.nx σ rs) (L.of g) a w := by
  unfold Lay.to at hg
  cases hb : (Nat.beq s.n L.n && (dfB s.df L.marks L.dc && ((L.marks.all (fun i => isDfr s.hp i && Nat.blt i L.nx) && L.dc.all (fun c => Nat.blt c.2 L.nx)) && !s.rd))) with
  | false => rw [hb] at hg; simp at hg
  | true =>
    rw [hb, cond_true] at hg
    simp only [Bool.and_eq_true, Nat.beq_eq, List.all_eq_true, blt_t] at hb
    obtain ⟨hn, hmk, ⟨hmh, hdc⟩, _⟩ := hb
    split at hg <;> try (simp at hg; done)
    rename_i y r1 z r2 h1 h2
    cases hdd : (nodupR (r1 ++ r2) && freshA (fixKs L.ks y ++ fixB L.bs z) (r1 ++ r2)) with
    | false => rw [hdd] at hg; simp at hg
    | true =>
      rw [hdd, cond_true] at hg
      simp only [Bool.and_eq_true] at hdd
      obtain ⟨hd, hfa⟩ := hdd
      simp only [Option.some.injEq] at hg
      subst hg
      have hmk' := dfB_spec hmk
      have hks : RepL σ (L.keys.map s.tm) (L.keys.map fun k => a.tmps.getD k undef) := by
        generalize L.keys = ks
        induction ks with
        | nil => simp only [List.map_nil, RepL]
        | cons k ks ih => simp only [List.map_cons, RepL]; exact ⟨_, _, rfl, h.tm k, ih⟩
      refine ⟨⟨toKs_wf h.h _ h1 hks, toB_wf h.h _ h2⟩, r1 ++ r2, ?_⟩
      generalize hτ : cutE L.nx σ (r1 ++ r2) = τ
      have hm : τ.mem = σ.mem := by rw [← hτ]; rfl
      have hlow : τ.low = σ.low := by rw [← hτ]; rfl
      have hat : ∀ i, i < L.nx → τ i = σ i := fun i hi => by rw [← hτ]; exact cutE_at hi
      have hsv : ∀ i, i < L.nx → τ.sv i = σ.sv i := fun i hi => by rw [← hτ]; exact cutE_sv hi
      have hR : Rooted σ τ L.nx (r1 ++ r2) := by rw [← hτ]; exact cutE_rooted
      have hK1 := toKs_ok (σ := σ) _ h1
      have hK2 := toB_ok (σ := σ) _ h2
      have hK := hK1.append hK2
      have hR2 : Rooted σ τ (L.nx + cntKs L.ks) r2 := hK1.len ▸ hR.right
      have hBlk := ofB_rep h.h hm hat hsv L.bs h2 hR2
      -- the lists
      have hArr : ∀ i o, L.nx ≤ i → L.hp (y, z) i = some o → ∃ A r, o = .arr A ∧ (arrKs L.ks y ++ arrB L.bs z)[i - L.nx]? = some A ∧ (r1 ++ r2)[i - L.nx]? = some r := by
        intro i o hi ho
        simp only [Lay.hp, Nat.ble_eq_true_of_le hi, cond_true, nth_eq] at ho
        cases hA : (arrKs L.ks y ++ arrB L.bs z)[i - L.nx]? with
        | none => rw [hA] at ho; simp at ho
        | some A =>
          rw [hA] at ho
          simp only [Option.map_some, Option.some.injEq] at ho
          have hlt := (List.getElem?_eq_some_iff.1 hA).1
          rw [hK.alen, ← hK.len] at hlt
          exact ⟨A, _, ho.symm, rfl, List.getElem?_eq_getElem hlt⟩
      have hNR : ∀ i, (∀ A, s.hp i ≠ some (.arr A)) → ∀ j : Nat, (r1 ++ r2)[j]? ≠ some (some i) := by
        intro i hna j hj
        have hlt := (List.getElem?_eq_some_iff.1 hj).1
        rw [hK.len, ← hK.alen] at hlt
        exact hna _ (hK.ok j _ _ hj (List.getElem?_eq_getElem hlt))
      have hFx : ∀ p ∈ fixKs L.ks y ++ fixB L.bs z, p.1 < L.nx ∧ s.hp p.1 = some (.arr p.2) := by
        intro p hp'
        rcases List.mem_append.1 hp' with k | k
        · exact toKs_fix _ h1 p k
        · exact toB_fix _ h2 p k
      have hLow : ∀ i o, i < L.nx → L.hp (y, z) i = some o → s.hp i ≠ none ∧ (∀ j : Nat, (r1 ++ r2)[j]? ≠ some (some i)) ∧ ObRel w0.heap.size τ w i o := by
        intro i o hi ho
        have hbl : Nat.ble L.nx i = false := by
          cases hc : Nat.ble L.nx i with
          | false => rfl
          | true => have := Nat.le_of_ble_eq_true hc; omega
        simp only [Lay.hp, hbl, cond_false] at ho
        cases hmem : memB i L.marks with
        | true =>
          rw [hmem, cond_true] at ho
          cases ho
          have hdf := isDfr_spec (hmh i (memB_t.1 hmem)).1
          obtain ⟨n, k1, k2, k3⟩ := h.h.ob i _ hdf
          exact ⟨by rw [hdf]; simp, hNR i (fun A => by rw [hdf]; simp), n, (hat i hi).trans k1, k2, k3⟩
        | false =>
          rw [hmem, cond_false] at ho
          cases hob : ofB L.bs z (L.nx + cntKs L.ks) i with
          | none =>
            rw [hob] at ho
            simp only at ho
            cases hfi : findA (fixKs L.ks y ++ fixB L.bs z) i with
            | none => rw [hfi] at ho; simp at ho
            | some A =>
              rw [hfi] at ho
              simp only [Option.map_some, Option.some.injEq] at ho
              subst ho
              have hmem' := findA_mem hfi
              obtain ⟨_, e2⟩ := hFx _ hmem'
              exact ⟨by rw [e2]; simp, freshA_spec hfa _ hmem', ObRel.arr_at hm (hat i hi) (hsv i hi) (h.h.ob i _ e2)⟩
          | some b =>
            rw [hob] at ho
            simp only [Option.some.injEq] at ho
            subst ho
            obtain ⟨_, k2, k3, k4⟩ := hBlk i b hob
            exact ⟨k2, hNR i k3, k4⟩
      -- what a list's number stands for
      have hRoot : ∀ i A r, L.nx ≤ i → (arrKs L.ks y ++ arrB L.bs z)[i - L.nx]? = some A → (r1 ++ r2)[i - L.nx]? = some r → match r with
          | some id => s.hp id = some (.arr A) ∧ τ i = σ id ∧ τ.sv i = σ.sv id
          | none => A.xs = [] ∧ 0 < A.c.size ∧ τ i = none ∧ τ.sv i = some (.slice none 0 0) := by
        intro i A r hi hA hr
        have hx := hK.ok _ r A hr hA
        have hy := hR _ r hr
        have he : L.nx + (i - L.nx) = i := by omega
        rw [he] at hy
        cases r with
        | some id => exact ⟨hx, hy.1, hy.2⟩
        | none => exact ⟨hx.1, hx.2, hy.1, hy.2⟩
      have hAt : ∀ i n, L.hp (y, z) i ≠ none → τ i = some n → ∃ id, s.hp id ≠ none ∧ σ id = some n ∧ ((i < L.nx ∧ id = i ∧ ∀ j : Nat, (r1 ++ r2)[j]? ≠ some (some id)) ∨ (L.nx ≤ i ∧ (r1 ++ r2)[i - L.nx]? = some (some id) ∧ ∃ A, s.hp id = some (.arr A))) := by
        intro i n hi hn
        cases ho : L.hp (y, z) i with
        | none => exact absurd ho hi
        | some o =>
          rcases Nat.lt_or_ge i L.nx with k | k
          · obtain ⟨k1, k2, _⟩ := hLow i o k ho
            exact ⟨i, k1, (hat i k).symm.trans hn, .inl ⟨k, rfl, k2⟩⟩
          · obtain ⟨A, r, _, hA, hr⟩ := hArr i o k ho
            have := hRoot i A r k hA hr
            cases r with
            | none => rw [this.2.2.1] at hn; cases hn
            | some id => exact ⟨id, by rw [this.1]; simp, this.2.1.symm.trans hn, .inr ⟨k, hr, A, this.1⟩⟩
      refine ⟨⟨?_, ?_, ?_, ?_, ?_, ?_, ?_, ⟨by rw [← hτ]; exact h.h.kp.sz, by rw [← hτ]; exact h.h.kp.ok, ?_, by rw [← hτ]; exact h.h.kp.mem⟩, by rw [← hτ]; exact cutE_rsv h.h.rs (Nat.le_add_right _ _)⟩, ?_, h.n.trans hn, ?_, h.bl, rfl⟩
      · intro i o ho
        rcases Nat.lt_or_ge i L.nx with k | k
        · exact (hLow i o k ho).2.2
        · obtain ⟨A, r, rfl, hA, hr⟩ := hArr i o k ho
          have := hRoot i A r k hA hr
          cases r with
          | some id => exact ObRel.arr_at hm this.2.1 this.2.2 (h.h.ob id _ this.1)
          | none =>
            obtain ⟨k1, k2, k3, k4⟩ := this
            refine ⟨_, [], k4, ⟨by simp [k1], .inl ⟨rfl, by simp [k1]⟩⟩, by rw [k1]; simp [LR], k2, fun n => by rw [k3]; simp [Value.ownBlock]⟩
      · intro i j n hi hj h1 h2
        obtain ⟨a1, b1, c1, d1⟩ := hAt i n hi h1
        obtain ⟨a2, b2, c2, d2⟩ := hAt j n hj h2
        have he := h.h.inj a1 a2 n b1 b2 c1 c2
        subst he
        rcases d1 with ⟨x1, rfl, y1⟩ | ⟨x1, y1, A, z1⟩ <;> rcases d2 with ⟨x2, rfl, y2⟩ | ⟨x2, y2, A', z2⟩
        · rfl
        · exact absurd y2 (y1 _)
        · exact absurd y1 (y2 _)
        · have := nodupR_spec hd _ _ _ y1 y2
          omega
      · intro i hi
        have hi' : L.nx + (cntKs L.ks + cntB L.bs) ≤ i := hi
        have hk : L.nx ≤ i := by omega
        have hlen : (r1 ++ r2)[i - L.nx]? = none := List.getElem?_eq_none (by rw [hK.len]; omega)
        refine ⟨?_, ?_, ?_⟩
        · rw [← hτ]; show (if i < L.nx then _ else _) = _; rw [if_neg (by omega), hlen]
        · rw [← hτ]; show (if i < L.nx then _ else _) = _; rw [if_neg (by omega), hlen]
        · show L.hp (y, z) i = none
          simp only [Lay.hp, Nat.ble_eq_true_of_le hk, cond_true, nth_eq]
          rw [List.getElem?_eq_none (by rw [hK.alen]; omega)]; rfl
      · intro i n hn
        rcases Nat.lt_or_ge i L.nx with k | k
        · exact h.h.bound i n ((hat i k).symm.trans hn)
        · cases hr : (r1 ++ r2)[i - L.nx]? with
          | none => rw [← hτ] at hn; change (if i < L.nx then _ else _) = _ at hn; rw [if_neg (by omega), hr] at hn; cases hn
          | some r =>
            have hy := hR _ r hr
            have he : L.nx + (i - L.nx) = i := by omega
            rw [he] at hy
            cases r with
            | none => rw [hy.1] at hn; cases hn
            | some id => exact h.h.bound id n (hy.1.symm.trans hn)
      · rw [hm]; exact h.h.mem
      · intro i n hi hn o
        obtain ⟨id, b1, c1, _⟩ := hAt i n hi hn
        rw [hm]
        exact h.h.sep id n b1 c1 o
      · intro b o v hv hlt
        rw [hlow]; rw [hm] at hv
        exact h.h.low b o v hv hlt
      · intro i n hi hn
        obtain ⟨id, b1, c1, _⟩ := hAt i n hi hn
        rw [← hτ]
        exact h.h.kp.sep id n b1 c1
      · intro t
        exact tmOf_rep L.keys _ (toKs_rep hm hat hsv _ h1 hks hR.left) t
      · show DfL τ (L.marks.map .mark ++ L.dc.map dcA) a.defers
        have hD := h.df
        rw [hmk'] at hD
        have hlt : ∀ i ∈ L.marks, i < L.nx := fun i hi => (hmh i hi).2
        revert hD hlt hdc
        generalize L.marks = ms
        generalize L.dc = dc
        generalize a.defers = Ds
        intro hdc hD hlt
        induction ms generalizing Ds with
        | nil =>
          simp only [List.map_nil, List.nil_append] at hD ⊢
          induction dc generalizing Ds with
          | nil => cases hD; exact .nil
          | cons c dc ih =>
            cases hD with
            | cons k1 k2 =>
              refine .cons ?_ (ih (fun x hx => hdc x (by simp [hx])) _ k2)
              obtain ⟨us, ks, e1, e2, e3⟩ := k1
              refine ⟨us, ks, ?_, ?_, e3⟩
              · simp only [RepL, Rep] at e1 ⊢
                obtain ⟨v, us', e4, ⟨b, e5, e6⟩, e7⟩ := e1
                exact ⟨v, us', e4, ⟨b, (hat c.2 (hdc c (by simp))).trans e5, e6⟩, e7⟩
              · simp only [RepL] at e2 ⊢
                exact e2
        | cons i ms ih =>
          cases hD with
          | cons k1 k2 =>
            refine .cons ?_ (ih _ k2 fun j hj => hlt j (by simp [hj]))
            obtain ⟨b, e1, e2⟩ := k1
            exact ⟨b, (hat i (hlt i (by simp))).trans e1, e2⟩

def Tree.map {α β : Type} (f : α → β) : Tree α → Tree β
  | .leaf a => .leaf (f a)
  | .need p t => .need p (t.map f)
  | .br c t e => .br c (t.map f) (e.map f)
  | .fail => .fail
theorem sat_map {α β : Type} {R : β → Prop} (f : α → β) (t : Tree α) : (t.map f).sat R ↔ t.sat (fun x => R (f x)) := by
  induction t with
  | leaf a => rfl
  | need p t ih => simp only [Tree.map, Tree.sat, ih]
  | br c t e ih1 ih2 => simp only [Tree.map, Tree.sat, ih1, ih2]
  | fail => rfl

/-- how a loop is left, and the state then -/
abbrev Left' (E : XE → Lay) := (e : XE) × (E e).T
/-- a value without memory: what a program panics with -/
def conA : AV → Bool
  | .ifc _ (.int _ _) => true
  | _ => false
theorem conA_rep {σ τ : Env} {x : AV} {v : Value} (h : conA x = true) (hx : Rep σ x v) : Rep τ x v := by
  unfold conA at h
  split at h
  · simp only [Rep] at hx ⊢
    exact hx
  · cases h
def stepOut (L : Lay) (E : XE → Lay) (e : XE) (s : St) : Tree (L.T ⊕ Left' E) :=
  match e with
  | .normal => match L.to s with
    | some g => .leaf (.inl g)
    | none => .fail
  | .panic x => bif conA x then match (E (.panic x)).to s with
      | some g => .leaf (.inr ⟨.panic x, g⟩)
      | none => .fail
    else .fail
  | e => match (E e).to s with
    | some g => .leaf (.inr ⟨e, g⟩)
    | none => .fail
/-- a loop's rounds, as data -/
def Rnds (L : Lay) (E : XE → Lay) (step : L.T → Tree (L.T ⊕ Left' E)) (R : Left' E → Prop) : Nat → L.T → Prop
  | 0, _ => False
  | n + 1, g => L.WF g → (step g).sat fun x => match x with
    | .inl g' => Rnds L E step R n g'
    | .inr x => (E x.1).WF x.2 → R x
def loopSum (L : Lay) (E : XE → Lay) (fin : L.T → Tree (Left' E)) (s : St) : Tree (XE × St) :=
  bif Nat.ble s.nx L.nx then
    match L.to s with
    | some g => (fin g).map fun x => (x.1, (E x.1).of x.2)
    | none => .fail
  else .fail

theorem loopOk_of {X : Ctx} (hX : CtxOk X) (m : Nat) (fn : FuncId) (Lt : LoopT) {c : Code} (hL : ∀ d ∈ loopsOf c, ∀ f, Lt (keyOf d) = some f → LoopOk X.P fn d f) (L : Lay) (E : XE → Lay) (hE : ∀ e, L.nx ≤ (E e).nx) (fin : L.T → Tree (Left' E)) (step : L.T → Tree (L.T ⊕ Left' E))
    (hstep : ∀ g, evC X.P (evFn X m) X.pures fn X.u Lt c (L.of g) (stepOut L E) = step g)
    (hfin : ∀ g R, L.WF g → (fin g).sat R → ∃ n, Rnds L E step R n g) : LoopOk X.P fn c (loopSum L E fin) := by
  intro w0 σ s a w R hS h
  simp only [loopSum] at h
  cases hc : Nat.ble s.nx L.nx with
  | false => simp [hc, Tree.sat] at h
  | true =>
    rw [hc, cond_true] at h
    have hnx := Nat.le_of_ble_eq_true hc
    cases he : L.to s with
    | none => simp [he, Tree.sat] at h
    | some g =>
      simp only [he, sat_map] at h
      have hfr : ∀ i, L.nx ≤ i → Free σ i := fun i hi => hS.h.free (by omega)
      have key : ∀ (n : Nat) (g : L.T) (σ' : Env) (a : Go.Act) (w : World), Rnds L E step (fun x => R (x.1, (E x.1).of x.2)) n g → L.WF g → Ext σ σ' → Sat false w0 σ' (L.of g) a w →
          roundsX X.P false fn c (XRes false w0 σ fun x s' => R (x, s')) n a w := by
        intro n
        induction n with
        | zero => intro g _ _ _ h; exact h.elim
        | succ n ih =>
          intro g σ' a w hr hwf hext hSg
          have hs := hr hwf
          rw [← hstep g] at hs
          have hw := evC_sound (α := L.T ⊕ Left' E) hX.mix hX.pures (evFn_sound hX _ m) fn X.u Lt c hL σ' _ a w _ hSg hs
          refine wpX_mono hw ?_
          rintro e a' w' ⟨τ, x, s', hext', hS', hx, hk⟩
          cases x with
          | normal =>
            simp only [stepOut] at hk
            cases e <;> simp only [ExR] at hx
            split at hk <;> try (simp [Tree.sat] at hk; done)
            rename_i g' hg'
            obtain ⟨k1, rs, k2⟩ := hS'.forget L hg'
            exact ih g' _ a' w' hk k1 (cutE_ext (hext.trans hext') hfr) k2
          | panic v =>
            simp only [stepOut] at hk
            cases hcon : conA v with
            | false => rw [hcon] at hk; exact hk.elim
            | true =>
              rw [hcon, cond_true] at hk
              split at hk <;> try (simp [Tree.sat] at hk; done)
              rename_i g' hg'
              obtain ⟨k1, rs, k2⟩ := hS'.forget _ hg'
              cases e <;> simp only [ExR] at hx
              obtain ⟨u, hu, hch⟩ := hx
              exact ⟨_, .panic v, _, cutE_ext (hext.trans hext') (fun j hj => hfr j (Nat.le_trans (hE _) hj)), k2, ⟨u, conA_rep hcon hu, hch⟩, hk k1⟩
          | exit i =>
            simp only [stepOut] at hk
            cases e <;> simp only [ExR] at hx
            subst hx
            split at hk <;> try (simp [Tree.sat] at hk; done)
            rename_i g' hg'
            obtain ⟨k1, rs, k2⟩ := hS'.forget _ hg'
            exact ⟨_, .exit i, _, cutE_ext (hext.trans hext') (fun j hj => hfr j (Nat.le_trans (hE _) hj)), k2, rfl, hk k1⟩
          | ret =>
            simp only [stepOut] at hk
            cases e <;> simp only [ExR] at hx
            split at hk <;> try (simp [Tree.sat] at hk; done)
            rename_i g' hg'
            obtain ⟨k1, rs, k2⟩ := hS'.forget _ hg'
            exact ⟨_, .ret, _, cutE_ext (hext.trans hext') (fun j hj => hfr j (Nat.le_trans (hE _) hj)), k2, trivial, hk k1⟩
      obtain ⟨hwf, rs, hF⟩ := hS.forget L he
      obtain ⟨n, hn⟩ := hfin g _ hwf h
      exact wpX_loop_rounds n (key n g _ a w hn hwf (cutE_ext (Ext.refl σ) hfr) hF)

def bodyOf (f : Func) : Code := match f.body with | some c => c | none => .skip
/-- a context with loops' summaries -/
def ctxL (P : Program) (pu : List (Nat × PureT)) (fns : List (Nat × Func)) (loops : List ((Nat × Nat) × (St → Tree (XE × St)))) : Ctx := { P := P, u := 64, fns := fns, loops := loops, pures := pu, specs := [] }
theorem ctxL_ok {P : Program} (hm : P.follows .mixedOrders = true) {pu : List (Nat × PureT)} {fns : List (Nat × Func)} {loops : List ((Nat × Nat) × (St → Tree (XE × St)))} (hp : PuOk P pu) (hf : ∀ p ∈ fns, FnIs P p)
    (hl : ∀ p ∈ fns, ∀ d ∈ loopsOf (bodyOf p.2), ∀ g, assoc2 loops p.1 (keyOf d) = some g → LoopOk P p.1 d g) : CtxOk (ctxL P pu fns loops) :=
  ⟨hm, hp, fun p h => ⟨(hf p h).1, (hf p h).2.1, fun c hc d hd f hfd => hl p h d (by unfold bodyOf; rw [hc]; exact hd) f hfd⟩, fun p h => by simp [ctxL] at h⟩
end V
end Go.Proofs.Ytgchccljmjmibaa
/- Loops by summary, where a loop over a function is under way: its record is part of the state at the head. -/
namespace Go.Proofs.Ytgchccljmjmibaa
open Go.RowKit
namespace V

/-- the record of a loop over a function: where it is, what of its frame is known, and its code; its state is fixed, or data -/
structure LK where
  id : Nat
  keys : List Nat
  ks : List SK
  n : Nat
  fn : FuncId
  params : List Nat
  assign : Code
  body : Code
  df : Nat
  st : Option Nat
@[reducible] def StT : Option Nat → Type
  | some _ => Unit
  | none => Nat
def stNo : (o : Option Nat) → StT o → Nat
  | some n, _ => n
  | none, n => n
def stOf : Nat → LoopState
  | 0 => .ready
  | _ => .done
def pdOf : Nat → Option Code
  | 0 => none
  | 1 => some .ret
  | n + 2 => some (.exit n)
def noOf : LoopState → Option Code → Option Nat
  | .ready, none => some 0
  | .done, some .ret => some 1
  | .done, some (.exit n) => some (n + 2)
  | _, _ => none
theorem noOf_spec {st : LoopState} {pd : Option Code} {n : Nat} (h : noOf st pd = some n) : stOf n = st ∧ pdOf n = pd := by
  unfold noOf at h
  split at h <;> simp at h <;> subst h <;> exact ⟨rfl, rfl⟩
def toSt : (o : Option Nat) → Nat → Option (StT o)
  | some m, n => bif Nat.beq n m then some () else none
  | none, n => some n
theorem toSt_spec : ∀ {o : Option Nat} {n : Nat} {y : StT o}, toSt o n = some y → stNo o y = n
  | some m, n, y, h => by
    simp only [toSt] at h
    cases hb : Nat.beq n m with
    | false => rw [hb] at h; simp at h
    | true => exact (Nat.eq_of_beq_eq_true hb).symm
  | none, n, y, h => by simp only [toSt, Option.some.injEq] at h; exact h.symm
@[reducible] def LTs : List LK → Type
  | [] => Unit
  | l :: ls => (SKTs l.ks × StT l.st) × LTs ls
def cntL : List LK → Nat
  | [] => 0
  | l :: ls => cntKs l.ks + cntL ls
def arrL : (ls : List LK) → LTs ls → List Arr
  | [], _ => []
  | l :: ls, y => arrKs l.ks y.1.1 ++ arrL ls y.2
def WFL : (ls : List LK) → LTs ls → Prop
  | [], _ => True
  | l :: ls, y => WFKs l.ks y.1.1 ∧ WFL ls y.2
def lpOf (l : LK) (y : SKTs l.ks × StT l.st) (m : Nat) : LoopR := { tm := tmOf l.keys (ofKs l.ks y.1 m), n := l.n, fn := l.fn, params := l.params, assign := l.assign, body := l.body, st := stOf (stNo l.st y.2), pend := pdOf (stNo l.st y.2), df := l.df }
def ofL : (ls : List LK) → LTs ls → Nat → Nat → Option LoopR
  | [], _, _, _ => none
  | l :: ls, y, m, i => bif Nat.beq i l.id then some (lpOf l y.1 m) else ofL ls y.2 (m + cntKs l.ks) i
def lpAt (hp : Heap) (i : Nat) : Option LoopR := match hp i with
  | some (.lp r) => some r
  | _ => none
theorem lpAt_spec {hp : Heap} {i : Nat} {r : LoopR} (h : lpAt hp i = some r) : hp i = some (.lp r) := by
  unfold lpAt at h
  split at h <;> try (simp at h; done)
  rename_i c hc
  simp only [Option.some.injEq] at h
  subst h; exact hc
def natsB : List Nat → List Nat → Bool
  | [], [] => true
  | i :: l, j :: m => Nat.beq i j && natsB l m
  | _, _ => false
theorem natsB_eq : ∀ {l m : List Nat}, natsB l m = true → l = m
  | [], [], _ => rfl
  | [], _ :: _, h => by simp [natsB] at h
  | _ :: _, [], h => by simp [natsB] at h
  | i :: l, j :: m, h => by
    simp only [natsB, Bool.and_eq_true, Nat.beq_eq] at h
    rw [h.1, natsB_eq h.2]
def toLp (nx : Nat) (hp : Heap) (l : LK) (r : LoopR) : Option ((SKTs l.ks × StT l.st) × Roots) :=
  bif Nat.beq r.n l.n && (Nat.beq r.fn l.fn && (natsB r.params l.params && (Nat.beq r.df l.df && Nat.blt l.id nx))) then
    match toKs nx hp l.ks (l.keys.map r.tm), (noOf r.st r.pend).bind (toSt l.st) with
    | some (y, rs), some z => some ((y, z), rs)
    | _, _ => none
  else none
def toL (nx : Nat) (hp : Heap) : (ls : List LK) → Option (LTs ls × Roots)
  | [] => some ((), [])
  | l :: ls => match (lpAt hp l.id).bind (toLp nx hp l), toL nx hp ls with
    | some (y, r1), some (z, r2) => some ((y, z), r1 ++ r2)
    | _, _ => none
/-- the records' codes are those of the layout -/
def sameL (hp : Heap) : List LK → Prop
  | [] => True
  | l :: ls => (match lpAt hp l.id with
    | some r => r.assign = l.assign ∧ r.body = l.body
    | none => False) ∧ sameL hp ls
/-- what `sameL` comes to where the records are the layout's own -/
def selfL : List LK → Prop
  | [] => True
  | l :: ls => (l.assign = l.assign ∧ l.body = l.body) ∧ selfL ls
theorem selfL_ok : ∀ (ls : List LK), selfL ls
  | [] => trivial
  | _ :: ls => ⟨⟨rfl, rfl⟩, selfL_ok ls⟩
theorem toL_cons {nx : Nat} {hp : Heap} {l : LK} {ls : List LK} {y : LTs (l :: ls)} {rs : Roots} (h : toL nx hp (l :: ls) = some (y, rs)) (hs : sameL hp (l :: ls)) :
    ∃ r r1 r2, hp l.id = some (.lp r) ∧ r.assign = l.assign ∧ r.body = l.body ∧ r.n = l.n ∧ r.fn = l.fn ∧ r.params = l.params ∧ r.df = l.df ∧ stOf (stNo l.st y.1.2) = r.st ∧ pdOf (stNo l.st y.1.2) = r.pend ∧ l.id < nx ∧ toKs nx hp l.ks (l.keys.map r.tm) = some (y.1.1, r1) ∧ toL nx hp ls = some (y.2, r2) ∧ sameL hp ls ∧ rs = r1 ++ r2 := by
  simp only [toL] at h
  obtain ⟨hs1, hs2⟩ := hs
  cases hr : lpAt hp l.id with
  | none => rw [hr] at h; simp at h
  | some r =>
    rw [hr] at hs1 h
    simp only [Option.bind_some] at h
    split at h <;> try (simp at h; done)
    rename_i y1 r1 y2 r2 h1 h2
    simp only [Option.some.injEq, Prod.mk.injEq] at h
    obtain ⟨rfl, rfl⟩ := h
    unfold toLp at h1
    cases hb : (Nat.beq r.n l.n && (Nat.beq r.fn l.fn && (natsB r.params l.params && (Nat.beq r.df l.df && Nat.blt l.id nx)))) with
    | false => rw [hb] at h1; simp at h1
    | true =>
      rw [hb, cond_true] at h1
      simp only [Bool.and_eq_true, Nat.beq_eq, blt_t] at hb
      obtain ⟨b1, b2, b3, b4, b5⟩ := hb
      split at h1 <;> try (simp at h1; done)
      rename_i y r1' z k1 k2
      simp only [Option.some.injEq, Prod.mk.injEq] at h1
      obtain ⟨rfl, rfl⟩ := h1
      cases hn : noOf r.st r.pend with
      | none => rw [hn] at k2; simp at k2
      | some n =>
        rw [hn] at k2
        simp only [Option.bind_some] at k2
        obtain ⟨e1, e2⟩ := noOf_spec hn
        have e3 := toSt_spec k2
        refine ⟨r, r1', r2, lpAt_spec hr, hs1.1, hs1.2, b1, b2, natsB_eq b3, b4, ?_, ?_, b5, k1, h2, hs2, rfl⟩
        · show stOf (stNo l.st z) = _; rw [e3]; exact e1
        · show pdOf (stNo l.st z) = _; rw [e3]; exact e2
theorem toL_ok {σ : Env} {nx : Nat} {hp : Heap} : ∀ (ls : List LK) {y : LTs ls} {rs : Roots}, toL nx hp ls = some (y, rs) → sameL hp ls → ReadK σ hp nx rs (arrL ls y) (cntL ls)
  | [], y, rs, h, _ => by
    simp only [toL, Option.some.injEq, Prod.mk.injEq] at h
    obtain ⟨_, rfl⟩ := h
    exact .nil
  | l :: ls, y, rs, h, hs => by
    obtain ⟨r, r1, r2, _, _, _, _, _, _, _, _, _, _, k1, k2, k3, rfl⟩ := toL_cons h hs
    exact (toKs_ok _ k1).append (toL_ok ls k2 k3)
theorem lp_keys {σ : Env} {tm : Nat → AV} {tmps : Array Value} (h : ∀ t, Rep σ (tm t) (tmps.getD t undef)) : ∀ (ks : List Nat), RepL σ (ks.map tm) (ks.map fun k => tmps.getD k undef)
  | [] => by simp only [List.map_nil, RepL]
  | k :: ks => by simp only [List.map_cons, RepL]; exact ⟨_, _, rfl, h k, lp_keys h ks⟩
theorem toL_wf {B : Nat} {σ : Env} {nx nx' : Nat} {hp : Heap} {w : World} (hh : HRel B σ hp nx' w) : ∀ (ls : List LK) {y : LTs ls} {rs : Roots}, toL nx hp ls = some (y, rs) → sameL hp ls → WFL ls y
  | [], y, rs, h, _ => trivial
  | l :: ls, y, rs, h, hs => by
    obtain ⟨r, r1, r2, k0, _, _, _, _, _, _, _, _, _, k1, k2, k3, rfl⟩ := toL_cons h hs
    obtain ⟨_, L, _, _, k5, _⟩ := hh.ob _ _ k0
    exact ⟨toKs_wf hh _ k1 (lp_keys k5.tm _), toL_wf hh ls k2 k3⟩
theorem ofL_rep {B : Nat} {σ τ : Env} {nx nx' : Nat} {hp : Heap} {w : World} (hh : HRel B σ hp nx' w) (hm : τ.mem = σ.mem) (hat : ∀ i, i < nx → τ i = σ i) (hsv : ∀ i, i < nx → τ.sv i = σ.sv i) : ∀ (ls : List LK) {y : LTs ls} {rs : Roots} {m : Nat}, toL nx hp ls = some (y, rs) → sameL hp ls → Rooted σ τ m rs →
    ∀ i b, ofL ls y m i = some b → i < nx ∧ hp i ≠ none ∧ (∀ A, hp i ≠ some (.arr A)) ∧ ObRel B τ w i (.lp b)
  | [], y, rs, m, _, _, _, i, b, h => by simp [ofL] at h
  | l :: ls, y, rs, m, h, hs, hr, i, b, hi => by
    obtain ⟨r, r1, r2, k0, c1, c2, c3, c4, c5, c6, c7, c8, k2, k3, k4, k5, rfl⟩ := toL_cons h hs
    simp only [ofL] at hi
    by_cases he : i = l.id
    · subst he
      simp only [Nat.beq_refl, cond_true, Option.some.injEq] at hi
      subst hi
      obtain ⟨n, L, o1, o2, o3, o4⟩ := hh.ob _ _ k0
      refine ⟨k2, by rw [k0]; simp, fun A => by rw [k0]; simp, n, L, (hat _ k2).trans o1, o2, ⟨?_, ?_, ?_, ?_, ?_, ?_, ?_, ?_⟩, o4⟩
      · exact tmOf_rep l.keys _ (toKs_rep hm hat hsv _ k3 (lp_keys o3.tm _) hr.left)
      · exact o3.n.trans c3
      · exact o3.fn.trans c4
      · exact o3.params.trans c5
      · exact o3.assign.trans c1
      · exact o3.body.trans c2
      · exact o3.st.trans c7.symm
      · exact o3.pend.trans c8.symm
    · rw [beq_ne he, cond_false] at hi
      have hl := (toKs_ok (σ := σ) _ k3).len
      exact ofL_rep hh hm hat hsv ls k4 k5 (hl ▸ hr.right) i b hi
/-! the state at a loop's head -/
structure Lay2 where
  keys : List Nat
  ks : List SK
  bs : List BK
  ls : List LK
  n : Nat
  nx : Nat
  marks : List Nat
  ds : List Nat
@[reducible] def Lay2.T (L : Lay2) : Type := SKTs L.ks × BTs L.bs × LTs L.ls
def Lay2.WF (L : Lay2) (g : L.T) : Prop := WFKs L.ks g.1 ∧ WFB L.bs g.2.1 ∧ WFL L.ls g.2.2
def Lay2.hp (L : Lay2) (g : L.T) : Heap := fun i =>
  bif Nat.ble L.nx i then (nth (arrKs L.ks g.1 ++ (arrB L.bs g.2.1 ++ arrL L.ls g.2.2)) (i - L.nx)).map .arr
  else bif memB i (L.marks ++ L.ds) then some .dfr else match ofB L.bs g.2.1 (L.nx + cntKs L.ks) i with
    | some b => some b
    | none => (ofL L.ls g.2.2 (L.nx + cntKs L.ks + cntB L.bs) i).map .lp
def Lay2.of (L : Lay2) (g : L.T) : St := { tm := tmOf L.keys (ofKs L.ks g.1 L.nx), n := L.n, hp := L.hp g, nx := L.nx + (cntKs L.ks + (cntB L.bs + cntL L.ls)), df := L.marks.map .mark, rd := false }
def Lay2.to (L : Lay2) (s : St) : Option L.T :=
  bif Nat.beq s.n L.n && (marksB s.df L.marks && ((L.marks ++ L.ds).all (fun i => isDfr s.hp i && Nat.blt i L.nx) && !s.rd)) then
    match toKs L.nx s.hp L.ks (L.keys.map s.tm), toB L.nx s.hp L.bs, toL L.nx s.hp L.ls with
    | some (y, r1), some (z, r2), some (u, r3) => bif nodupR (r1 ++ (r2 ++ r3)) then some (y, z, u) else none
    | _, _, _ => none
  else none

/-- what does not live is forgotten, and the lists are numbered anew -/
theorem Sat.forget2 {w0 : World} {σ : Env} {s : St} {a : Go.Act} {w : World} (h : Sat false w0 σ s a w) (L : Lay2) {g : L.T} (hg : L.to s = some g) (hsm : sameL s.hp L.ls) : L.WF g ∧ ∃ rs, Sat false w0 (cutE L.nx σ rs) (L.of g) a w := by
  unfold Lay2.to at hg
  cases hb : (Nat.beq s.n L.n && (marksB s.df L.marks && ((L.marks ++ L.ds).all (fun i => isDfr s.hp i && Nat.blt i L.nx) && !s.rd))) with
  | false => rw [hb] at hg; simp at hg
  | true =>
    rw [hb, cond_true] at hg
    simp only [Bool.and_eq_true, Nat.beq_eq, List.all_eq_true, blt_t] at hb
    obtain ⟨hn, hmk, hmh, _⟩ := hb
    split at hg <;> try (simp at hg; done)
    rename_i y r1 z r2 u r3 h1 h2 h3
    cases hd : nodupR (r1 ++ (r2 ++ r3)) with
    | false => rw [hd] at hg; simp at hg
    | true =>
      rw [hd, cond_true] at hg
      simp only [Option.some.injEq] at hg
      subst hg
      have hmk' := marksB_spec hmk
      have hks : RepL σ (L.keys.map s.tm) (L.keys.map fun k => a.tmps.getD k undef) := by
        generalize L.keys = ks
        induction ks with
        | nil => simp only [List.map_nil, RepL]
        | cons k ks ih => simp only [List.map_cons, RepL]; exact ⟨_, _, rfl, h.tm k, ih⟩
      refine ⟨⟨toKs_wf h.h _ h1 hks, toB_wf h.h _ h2, toL_wf h.h _ h3 hsm⟩, r1 ++ (r2 ++ r3), ?_⟩
      generalize hτ : cutE L.nx σ (r1 ++ (r2 ++ r3)) = τ
      have hm : τ.mem = σ.mem := by rw [← hτ]; rfl
      have hlow : τ.low = σ.low := by rw [← hτ]; rfl
      have hat : ∀ i, i < L.nx → τ i = σ i := fun i hi => by rw [← hτ]; exact cutE_at hi
      have hsv : ∀ i, i < L.nx → τ.sv i = σ.sv i := fun i hi => by rw [← hτ]; exact cutE_sv hi
      have hR : Rooted σ τ L.nx (r1 ++ (r2 ++ r3)) := by rw [← hτ]; exact cutE_rooted
      have hK1 := toKs_ok (σ := σ) _ h1
      have hK2 := toB_ok (σ := σ) _ h2
      have hK3 := toL_ok (σ := σ) _ h3 hsm
      have hK := hK1.append (hK2.append hK3)
      have hR1 : Rooted σ τ (L.nx + cntKs L.ks) (r2 ++ r3) := hK1.len ▸ hR.right
      have hR3 : Rooted σ τ (L.nx + cntKs L.ks + cntB L.bs) r3 := hK2.len ▸ hR1.right
      have hBlk := ofB_rep h.h hm hat hsv L.bs h2 hR1.left
      have hLp := ofL_rep h.h hm hat hsv L.ls h3 hsm hR3
      -- the lists
      have hArr : ∀ i o, L.nx ≤ i → L.hp (y, z, u) i = some o → ∃ A r, o = .arr A ∧ (arrKs L.ks y ++ (arrB L.bs z ++ arrL L.ls u))[i - L.nx]? = some A ∧ (r1 ++ (r2 ++ r3))[i - L.nx]? = some r := by
        intro i o hi ho
        simp only [Lay2.hp, Nat.ble_eq_true_of_le hi, cond_true, nth_eq] at ho
        cases hA : (arrKs L.ks y ++ (arrB L.bs z ++ arrL L.ls u))[i - L.nx]? with
        | none => rw [hA] at ho; simp at ho
        | some A =>
          rw [hA] at ho
          simp only [Option.map_some, Option.some.injEq] at ho
          have hlt := (List.getElem?_eq_some_iff.1 hA).1
          rw [hK.alen, ← hK.len] at hlt
          exact ⟨A, _, ho.symm, rfl, List.getElem?_eq_getElem hlt⟩
      have hLow : ∀ i o, i < L.nx → L.hp (y, z, u) i = some o → s.hp i ≠ none ∧ (∀ A, s.hp i ≠ some (.arr A)) ∧ ObRel w0.heap.size τ w i o := by
        intro i o hi ho
        have hbl : Nat.ble L.nx i = false := by
          cases hc : Nat.ble L.nx i with
          | false => rfl
          | true => have := Nat.le_of_ble_eq_true hc; omega
        simp only [Lay2.hp, hbl, cond_false] at ho
        cases hmem : memB i (L.marks ++ L.ds) with
        | true =>
          rw [hmem, cond_true] at ho
          cases ho
          have hdf := isDfr_spec (hmh i (memB_t.1 hmem)).1
          obtain ⟨n, k1, k2, k3⟩ := h.h.ob i _ hdf
          exact ⟨by rw [hdf]; simp, fun A => by rw [hdf]; simp, n, (hat i hi).trans k1, k2, k3⟩
        | false =>
          rw [hmem, cond_false] at ho
          cases hob : ofB L.bs z (L.nx + cntKs L.ks) i with
          | none =>
            rw [hob] at ho
            simp only at ho
            cases hol : ofL L.ls u (L.nx + cntKs L.ks + cntB L.bs) i with
            | none => rw [hol] at ho; simp at ho
            | some b =>
              rw [hol] at ho
              simp only [Option.map_some, Option.some.injEq] at ho
              subst ho
              obtain ⟨_, k2, k3, k4⟩ := hLp i b hol
              exact ⟨k2, k3, k4⟩
          | some b =>
            rw [hob] at ho
            simp only [Option.some.injEq] at ho
            subst ho
            obtain ⟨_, k2, k3, k4⟩ := hBlk i b hob
            exact ⟨k2, k3, k4⟩
      -- what a list's number stands for
      have hRoot : ∀ i A r, L.nx ≤ i → (arrKs L.ks y ++ (arrB L.bs z ++ arrL L.ls u))[i - L.nx]? = some A → (r1 ++ (r2 ++ r3))[i - L.nx]? = some r → match r with
          | some id => s.hp id = some (.arr A) ∧ τ i = σ id ∧ τ.sv i = σ.sv id
          | none => A.xs = [] ∧ 0 < A.c.size ∧ τ i = none ∧ τ.sv i = some (.slice none 0 0) := by
        intro i A r hi hA hr
        have hx := hK.ok _ r A hr hA
        have hy := hR _ r hr
        have he : L.nx + (i - L.nx) = i := by omega
        rw [he] at hy
        cases r with
        | some id => exact ⟨hx, hy.1, hy.2⟩
        | none => exact ⟨hx.1, hx.2, hy.1, hy.2⟩
      have hAt : ∀ i n, L.hp (y, z, u) i ≠ none → τ i = some n → ∃ id, s.hp id ≠ none ∧ σ id = some n ∧ ((i < L.nx ∧ id = i ∧ ∀ A, s.hp id ≠ some (.arr A)) ∨ (L.nx ≤ i ∧ (r1 ++ (r2 ++ r3))[i - L.nx]? = some (some id) ∧ ∃ A, s.hp id = some (.arr A))) := by
        intro i n hi hn
        cases ho : L.hp (y, z, u) i with
        | none => exact absurd ho hi
        | some o =>
          rcases Nat.lt_or_ge i L.nx with k | k
          · obtain ⟨k1, k2, _⟩ := hLow i o k ho
            exact ⟨i, k1, (hat i k).symm.trans hn, .inl ⟨k, rfl, k2⟩⟩
          · obtain ⟨A, r, _, hA, hr⟩ := hArr i o k ho
            have := hRoot i A r k hA hr
            cases r with
            | none => rw [this.2.2.1] at hn; cases hn
            | some id => exact ⟨id, by rw [this.1]; simp, this.2.1.symm.trans hn, .inr ⟨k, hr, A, this.1⟩⟩
      refine ⟨⟨?_, ?_, ?_, ?_, ?_, ?_, ?_, ⟨by rw [← hτ]; exact h.h.kp.sz, by rw [← hτ]; exact h.h.kp.ok, ?_, by rw [← hτ]; exact h.h.kp.mem⟩, by rw [← hτ]; exact cutE_rsv h.h.rs (Nat.le_add_right _ _)⟩, ?_, h.n.trans hn, ?_, h.bl, rfl⟩
      · intro i o ho
        rcases Nat.lt_or_ge i L.nx with k | k
        · exact (hLow i o k ho).2.2
        · obtain ⟨A, r, rfl, hA, hr⟩ := hArr i o k ho
          have := hRoot i A r k hA hr
          cases r with
          | some id => exact ObRel.arr_at hm this.2.1 this.2.2 (h.h.ob id _ this.1)
          | none =>
            obtain ⟨k1, k2, k3, k4⟩ := this
            refine ⟨_, [], k4, ⟨by simp [k1], .inl ⟨rfl, by simp [k1]⟩⟩, by rw [k1]; simp [LR], k2, fun n => by rw [k3]; simp [Value.ownBlock]⟩
      · intro i j n hi hj h1 h2
        obtain ⟨a1, b1, c1, d1⟩ := hAt i n hi h1
        obtain ⟨a2, b2, c2, d2⟩ := hAt j n hj h2
        have he := h.h.inj a1 a2 n b1 b2 c1 c2
        subst he
        rcases d1 with ⟨x1, rfl, y1⟩ | ⟨x1, y1, A, z1⟩ <;> rcases d2 with ⟨x2, rfl, y2⟩ | ⟨x2, y2, A', z2⟩
        · rfl
        · exact absurd z2 (y1 A')
        · exact absurd z1 (y2 A)
        · have := nodupR_spec hd _ _ _ y1 y2
          omega
      · intro i hi
        have hi' : L.nx + (cntKs L.ks + (cntB L.bs + cntL L.ls)) ≤ i := hi
        have hk : L.nx ≤ i := by omega
        have hlen : (r1 ++ (r2 ++ r3))[i - L.nx]? = none := List.getElem?_eq_none (by rw [hK.len]; omega)
        refine ⟨?_, ?_, ?_⟩
        · rw [← hτ]; show (if i < L.nx then _ else _) = _; rw [if_neg (by omega), hlen]
        · rw [← hτ]; show (if i < L.nx then _ else _) = _; rw [if_neg (by omega), hlen]
        · show L.hp (y, z, u) i = none
          simp only [Lay2.hp, Nat.ble_eq_true_of_le hk, cond_true, nth_eq]
          rw [List.getElem?_eq_none (by rw [hK.alen]; omega)]; rfl
      · intro i n hn
        rcases Nat.lt_or_ge i L.nx with k | k
        · exact h.h.bound i n ((hat i k).symm.trans hn)
        · cases hr : (r1 ++ (r2 ++ r3))[i - L.nx]? with
          | none => rw [← hτ] at hn; change (if i < L.nx then _ else _) = _ at hn; rw [if_neg (by omega), hr] at hn; cases hn
          | some r =>
            have hy := hR _ r hr
            have he : L.nx + (i - L.nx) = i := by omega
            rw [he] at hy
            cases r with
            | none => rw [hy.1] at hn; cases hn
            | some id => exact h.h.bound id n (hy.1.symm.trans hn)
      · rw [hm]; exact h.h.mem
      · intro i n hi hn o
        obtain ⟨id, b1, c1, _⟩ := hAt i n hi hn
        rw [hm]
        exact h.h.sep id n b1 c1 o
      · intro b o v hv hlt
        rw [hlow]; rw [hm] at hv
        exact h.h.low b o v hv hlt
      · intro i n hi hn
        obtain ⟨id, b1, c1, _⟩ := hAt i n hi hn
        rw [← hτ]
        exact h.h.kp.sep id n b1 c1
      · intro t
        exact tmOf_rep L.keys _ (toKs_rep hm hat hsv _ h1 hks hR.left) t
      · show DfL τ (L.marks.map .mark) a.defers
        have hD := h.df
        rw [hmk'] at hD
        have hlt : ∀ i ∈ L.marks, i < L.nx := fun i hi => (hmh i (List.mem_append.2 (.inl hi))).2
        revert hD hlt
        generalize L.marks = ms
        generalize a.defers = Ds
        intro hD hlt
        induction ms generalizing Ds with
        | nil => cases hD; exact .nil
        | cons i ms ih =>
          cases hD with
          | cons k1 k2 =>
            refine .cons ?_ (ih _ k2 fun j hj => hlt j (by simp [hj]))
            obtain ⟨b, e1, e2⟩ := k1
            exact ⟨b, (hat i (hlt i (by simp))).trans e1, e2⟩

/-- how a loop is left, and the state then -/
abbrev Left2 (E : XE → Lay2) := (e : XE) × (E e).T
def stepOut2 (L : Lay2) (E : XE → Lay2) (e : XE) (s : St) : Tree (L.T ⊕ Left2 E) :=
  match e with
  | .normal => match L.to s with
    | some g => .need (sameL s.hp L.ls) (.leaf (.inl g))
    | none => .fail
  | .panic x => bif conA x then match (E (.panic x)).to s with
      | some g => .need (sameL s.hp (E (.panic x)).ls) (.leaf (.inr ⟨.panic x, g⟩))
      | none => .fail
    else .fail
  | e => match (E e).to s with
    | some g => .need (sameL s.hp (E e).ls) (.leaf (.inr ⟨e, g⟩))
    | none => .fail
/-- a loop's rounds, as data -/
def Rnds2 (L : Lay2) (E : XE → Lay2) (step : L.T → Tree (L.T ⊕ Left2 E)) (R : Left2 E → Prop) : Nat → L.T → Prop
  | 0, _ => False
  | n + 1, g => L.WF g → (step g).sat fun x => match x with
    | .inl g' => Rnds2 L E step R n g'
    | .inr x => (E x.1).WF x.2 → R x
def loopSum2 (L : Lay2) (E : XE → Lay2) (fin : L.T → Tree (Left2 E)) (s : St) : Tree (XE × St) :=
  bif Nat.ble s.nx L.nx then
    match L.to s with
    | some g => .need (sameL s.hp L.ls) ((fin g).map fun x => (x.1, (E x.1).of x.2))
    | none => .fail
  else .fail

theorem loopOk_of2 {X : Ctx} (hX : CtxOk X) (m : Nat) (fn : FuncId) (Lt : LoopT) {c : Code} (hL : ∀ d ∈ loopsOf c, ∀ f, Lt (keyOf d) = some f → LoopOk X.P fn d f) (L : Lay2) (E : XE → Lay2) (hE : ∀ e, L.nx ≤ (E e).nx) (fin : L.T → Tree (Left2 E)) (step : L.T → Tree (L.T ⊕ Left2 E))
    (hstep : ∀ g, evC X.P (evFn X m) X.pures fn X.u Lt c (L.of g) (stepOut2 L E) = step g)
    (hfin : ∀ g R, L.WF g → (fin g).sat R → ∃ n, Rnds2 L E step R n g) : LoopOk X.P fn c (loopSum2 L E fin) := by
  intro w0 σ s a w R hS h
  simp only [loopSum2] at h
  cases hc : Nat.ble s.nx L.nx with
  | false => simp [hc, Tree.sat] at h
  | true =>
    rw [hc, cond_true] at h
    have hnx := Nat.le_of_ble_eq_true hc
    cases he : L.to s with
    | none => simp [he, Tree.sat] at h
    | some g =>
      simp only [he, Tree.sat, sat_map] at h
      obtain ⟨hsm, h⟩ := h
      have hfr : ∀ i, L.nx ≤ i → Free σ i := fun i hi => hS.h.free (by omega)
      have key : ∀ (n : Nat) (g : L.T) (σ' : Env) (a : Go.Act) (w : World), Rnds2 L E step (fun x => R (x.1, (E x.1).of x.2)) n g → L.WF g → Ext σ σ' → Sat false w0 σ' (L.of g) a w →
          roundsX X.P false fn c (XRes false w0 σ fun x s' => R (x, s')) n a w := by
        intro n
        induction n with
        | zero => intro g _ _ _ h; exact h.elim
        | succ n ih =>
          intro g σ' a w hr hwf hext hSg
          have hs := hr hwf
          rw [← hstep g] at hs
          have hw := evC_sound (α := L.T ⊕ Left2 E) hX.mix hX.pures (evFn_sound hX _ m) fn X.u Lt c hL σ' _ a w _ hSg hs
          refine wpX_mono hw ?_
          rintro e a' w' ⟨τ, x, s', hext', hS', hx, hk⟩
          cases x with
          | normal =>
            simp only [stepOut2] at hk
            cases e <;> simp only [ExR] at hx
            split at hk <;> try (simp [Tree.sat] at hk; done)
            rename_i g' hg'
            obtain ⟨hsm', hk⟩ := hk
            obtain ⟨k1, rs, k2⟩ := hS'.forget2 L hg' hsm'
            exact ih g' _ a' w' hk k1 (cutE_ext (hext.trans hext') hfr) k2
          | panic v =>
            simp only [stepOut2] at hk
            cases hcon : conA v with
            | false => rw [hcon] at hk; exact hk.elim
            | true =>
              rw [hcon, cond_true] at hk
              split at hk <;> try (simp [Tree.sat] at hk; done)
              rename_i g' hg'
              obtain ⟨hsm', hk⟩ := hk
              obtain ⟨k1, rs, k2⟩ := hS'.forget2 _ hg' hsm'
              cases e <;> simp only [ExR] at hx
              obtain ⟨u, hu, hch⟩ := hx
              exact ⟨_, .panic v, _, cutE_ext (hext.trans hext') (fun j hj => hfr j (Nat.le_trans (hE _) hj)), k2, ⟨u, conA_rep hcon hu, hch⟩, hk k1⟩
          | exit i =>
            simp only [stepOut2] at hk
            cases e <;> simp only [ExR] at hx
            subst hx
            split at hk <;> try (simp [Tree.sat] at hk; done)
            rename_i g' hg'
            obtain ⟨hsm', hk⟩ := hk
            obtain ⟨k1, rs, k2⟩ := hS'.forget2 _ hg' hsm'
            exact ⟨_, .exit i, _, cutE_ext (hext.trans hext') (fun j hj => hfr j (Nat.le_trans (hE _) hj)), k2, rfl, hk k1⟩
          | ret =>
            simp only [stepOut2] at hk
            cases e <;> simp only [ExR] at hx
            split at hk <;> try (simp [Tree.sat] at hk; done)
            rename_i g' hg'
            obtain ⟨hsm', hk⟩ := hk
            obtain ⟨k1, rs, k2⟩ := hS'.forget2 _ hg' hsm'
            exact ⟨_, .ret, _, cutE_ext (hext.trans hext') (fun j hj => hfr j (Nat.le_trans (hE _) hj)), k2, trivial, hk k1⟩
      obtain ⟨hwf, rs, hF⟩ := hS.forget2 L he hsm
      obtain ⟨n, hn⟩ := hfin g _ hwf h
      exact wpX_loop_rounds n (key n g _ a w hn hwf (cutE_ext (Ext.refl σ) hfr) hF)

end V
end Go.Proofs.Ytgchccljmjmibaa
/- Loops over lists: a loop's rounds, by what one round does. -/
namespace Go.Proofs.Ytgchccljmjmibaa
open Go.RowKit
namespace V
theorem getA_lt {β : Type} {l : List β} {i : Nat} (h : i < l.length) (d : β) : getA l i d = l[i] := by rw [getA_eq]; simp [h]
theorem getA_mem {β : Type} {l : List β} {i : Nat} (h : i < l.length) (d : β) : getA l i d ∈ l := by rw [getA_lt h]; exact List.getElem_mem h
theorem drop_cons {β : Type} {l : List β} {i : Nat} (h : i < l.length) (d : β) : l.drop i = getA l i d :: l.drop (i + 1) := by rw [getA_lt h]; exact List.drop_eq_getElem_cons h
/-- the loops over functions in code: what hands out the values, and what is done with them -/
def rangesOf : Code → List (Code × Code)
  | .rangeFunc _ _ a b => (a, b) :: (rangesOf a ++ rangesOf b)
  | .seq a b => rangesOf a ++ rangesOf b
  | .cond _ a b => rangesOf a ++ rangesOf b
  | .block _ c => rangesOf c
  | .loop c => rangesOf c
  | .scope c => rangesOf c
  | _ => []
def rangeAt (f : Func) (i : Nat) : Code × Code := (rangesOf (bodyOf f)).getD i (.skip, .skip)
/-- what a loop comes to: one step for each element -/
def runL {α S B : Type} (f : α → Nat → S → S ⊕ B) (ex : S → B) : List α → Nat → S → B
  | [], _, s => ex s
  | x :: l, i, s => match f x i s with
    | .inl s' => runL f ex l (i + 1) s'
    | .inr b => b
section
variable {L : Lay} {E : XE → Lay} {step : L.T → Tree (L.T ⊕ Left' E)} {R : Left' E → Prop} {S α : Type}
/-- a loop over a list of α, of which the i-th is given by `at` -/
theorem rnds_runL (l : List α) (head : Nat → S → L.T) (f : α → Nat → S → S ⊕ Left' E) (ex : S → Left' E) (Inv : S → Prop)
    (h1 : ∀ (i : Nat) (s : S) (hi : i < l.length) (Q : L.T ⊕ Left' E → Prop), Inv s → L.WF (head i s) → (match f l[i] i s with
      | .inl s' => Inv s' → Q (.inl (head (i + 1) s'))
      | .inr b => Q (.inr b)) → (step (head i s)).sat Q)
    (h3 : ∀ (s : S) (Q : L.T ⊕ Left' E → Prop), Inv s → Q (.inr (ex s)) → (step (head l.length s)).sat Q) :
    ∀ (k i : Nat) (s : S), i + k = l.length → Inv s → R (runL f ex (l.drop i) i s) → Rnds L E step R (k + 1) (head i s)
  | 0, i, s, hk, hi, hr => by
    have e : i = l.length := by omega
    subst e
    rw [List.drop_length] at hr
    intro _
    exact h3 s _ hi (fun _ => hr)
  | k + 1, i, s, hk, hi, hr => by
    have hlt : i < l.length := by omega
    intro hw
    rw [List.drop_eq_getElem_cons hlt] at hr
    simp only [runL] at hr
    refine h1 i s hlt _ hi hw ?_
    cases hf : f l[i] i s with
    | inl s' =>
      rw [hf] at hr
      intro hi'
      exact rnds_runL l head f ex Inv h1 h3 k (i + 1) s' (by omega) hi' hr
    | inr b =>
      rw [hf] at hr
      exact fun _ => hr
end
section
variable {L : Lay2} {E : XE → Lay2} {step : L.T → Tree (L.T ⊕ Left2 E)} {R : Left2 E → Prop} {S α : Type}
theorem rnds_runL2 (l : List α) (head : Nat → S → L.T) (f : α → Nat → S → S ⊕ Left2 E) (ex : S → Left2 E) (Inv : S → Prop)
    (h1 : ∀ (i : Nat) (s : S) (hi : i < l.length) (Q : L.T ⊕ Left2 E → Prop), Inv s → L.WF (head i s) → (match f l[i] i s with
      | .inl s' => Inv s' → Q (.inl (head (i + 1) s'))
      | .inr b => Q (.inr b)) → (step (head i s)).sat Q)
    (h3 : ∀ (s : S) (Q : L.T ⊕ Left2 E → Prop), Inv s → Q (.inr (ex s)) → (step (head l.length s)).sat Q) :
    ∀ (k i : Nat) (s : S), i + k = l.length → Inv s → R (runL f ex (l.drop i) i s) → Rnds2 L E step R (k + 1) (head i s)
  | 0, i, s, hk, hi, hr => by
    have e : i = l.length := by omega
    subst e
    rw [List.drop_length] at hr
    intro _
    exact h3 s _ hi (fun _ => hr)
  | k + 1, i, s, hk, hi, hr => by
    have hlt : i < l.length := by omega
    intro hw
    rw [List.drop_eq_getElem_cons hlt] at hr
    simp only [runL] at hr
    refine h1 i s hlt _ hi hw ?_
    cases hf : f l[i] i s with
    | inl s' =>
      rw [hf] at hr
      intro hi'
      exact rnds_runL2 l head f ex Inv h1 h3 k (i + 1) s' (by omega) hi' hr
    | inr b =>
      rw [hf] at hr
      exact fun _ => hr
end
end V
end Go.Proofs.Ytgchccljmjmibaa
/- Contracts by the tree itself: a function's result is what the tree's leaf holds. -/
namespace Go.Proofs.Ytgchccljmjmibaa
open Go.RowKit
namespace V
def Tree.isLeaf {α : Type} : Tree α → Bool
  | .leaf _ => true
  | _ => false
def Tree.val {α : Type} (d : α) : Tree α → α
  | .leaf a => a
  | _ => d
theorem sat_val {α : Type} {d : α} {t : Tree α} (h : t.isLeaf = true) : t.sat (fun y => y = t.val d) := by
  cases t <;> simp_all [Tree.isLeaf, Tree.sat, Tree.val]
theorem sat_leafE {α : Type} {t : Tree α} {a : α} (e : t = .leaf a) : t.sat (fun y => y = a) := by subst e; exact rfl
/-- the contract that a tree makes -/
def tspec (cs rs : List TC) (T : TCTs cs → Tree (TCTs rs)) : PureT := spec cs rs (fun x => (T x).isLeaf) (fun x => (T x).val (dflts rs))
theorem q_tree {X : Ctx} (hX : CtxOk X) {f : FuncId} {cs rs : List TC} {T : TCTs cs → Tree (TCTs rs)} (m : Nat)
    (h : ∀ x : TCTs cs, evFn X m (.fn f) (encAs cs x) noHeap 0 (outK X.P rs) = T x) : PureOk X.P f (tspec cs rs T) :=
  pureOk_of_ev hX m fun x hx _ => sat_eq (h x) (sat_val hx)
theorem q_leaf {X : Ctx} (hX : CtxOk X) {f : FuncId} {cs rs : List TC} {F : TCTs cs → TCTs rs} (m : Nat)
    (h : ∀ x : TCTs cs, evFn X m (.fn f) (encAs cs x) noHeap 0 (outK X.P rs) = .leaf (F x)) : PureOk X.P f (spec cs rs (fun _ => true) F) :=
  pureOk_of_ev hX m fun x _ _ => sat_leafE (h x)
theorem q_by {X : Ctx} (hX : CtxOk X) {f : FuncId} {cs rs : List TC} {ok : TCTs cs → Bool} {F : TCTs cs → TCTs rs} (m : Nat) (T : TCTs cs → Tree (TCTs rs))
    (hT : ∀ x : TCTs cs, evFn X m (.fn f) (encAs cs x) noHeap 0 (outK X.P rs) = T x) (h : ∀ x, ok x = true → WFDs cs x → (T x).sat (fun y => y = F x)) : PureOk X.P f (spec cs rs ok F) :=
  pureOk_of_ev hX m fun x hx hw => sat_eq (hT x) (h x hx hw)
theorem law_by {X : Ctx} {f : FuncId} {cs : List TC} (m : Nat) (T : TCTs cs → Tree Unit) (hT : ∀ y : TCTs cs, evFn X m (.fn f) (encAs cs y) noHeap 0 lawK = T y) (h : ∀ y : TCTs cs, WFDs cs y → (T y).sat (fun _ => True)) :
    ∀ y : TCTs cs, WFDs cs y → (evFn X m (.fn f) (encAs cs y) noHeap 0 lawK).sat (fun _ => True) := fun y hw => sat_eq (hT y) (h y hw)
/-- a function from a pointer to one of its parts: it reads nothing -/
def ptrRun (o : Nat) : List AV → Option (Bool × AV)
  | [.ptr id row st col] => some (true, .ptr id row st (col + o))
  | _ => none
def ptrAt (o : Nat) : PureT := { run := ptrRun o, flat := true }
def ptrK (v : Out) (_ : Heap) (_ : Nat) : Tree AV := match v with
  | .ret x => .leaf x
  | .pan _ => .fail
theorem repl_ptr {σ : Env} {id row st col : Nat} {us : List Value} (h : RepL σ [.ptr id row st col] us) : ∃ b, σ id = some b ∧ us = [.pointer (some ⟨b, row * st + col, none⟩)] := by
  simp only [RepL, Rep] at h
  obtain ⟨v, us', rfl, ⟨b, h1, rfl⟩, rfl⟩ := h
  exact ⟨b, h1, rfl⟩
theorem q_ptr {X : Ctx} (hX : CtxOk X) {f : FuncId} {o : Nat} (m : Nat) (h : ∀ id row st col, evFn X m (.fn f) [.ptr id row st col] noHeap (id + 1) ptrK = .leaf (.ptr id row st (col + o))) : PureOk X.P f (ptrAt o) := by
  intro σ w xs us r hbd hm hu hg
  simp only [ptrAt, ptrRun] at hg
  split at hg <;> try (simp at hg; done)
  rename_i id row st col
  simp only [Option.some.injEq, Prod.mk.injEq, true_and] at hg
  subst hg
  obtain ⟨b, hb, rfl⟩ := repl_ptr hu
  have hH : HRel w.heap.size (⟨fun i => if i = id then some b else none, fun _ _ => none, fun _ => none, fun _ _ => none, fun _ => none, 0, fun _ => false, fun _ => false⟩ : Env) noHeap (id + 1) w := by
    refine ⟨fun _ _ h => by simp [noHeap] at h, fun _ _ _ h => absurd rfl h, fun i hi => ⟨?_, rfl, rfl⟩, fun i n hn => ?_, fun _ _ _ h => (by cases h), fun _ _ h => absurd rfl h, fun _ _ _ h => (by cases h), ⟨Nat.zero_le _, fun _ _ h => (by cases h), fun _ _ h => absurd rfl h, fun _ _ _ h => (by cases h)⟩, ⟨fun _ h => (by simp at h), fun _ h => (by cases h), fun _ h => (by cases h)⟩⟩
    · show (if i = id then some b else none) = none
      rw [if_neg (by omega)]
    · change (if i = id then some b else none) = some n at hn
      split at hn
      · cases hn; exact hbd id b hb
      · cases hn
  have hu' : RepL (⟨fun i => if i = id then some b else none, fun _ _ => none, fun _ => none, fun _ _ => none, fun _ => none, 0, fun _ => false, fun _ => false⟩ : Env) [.ptr id row st col] [.pointer (some ⟨b, row * st + col, none⟩)] := by
    simp only [RepL, Rep]; exact ⟨_, _, rfl, ⟨b, by simp, rfl⟩, rfl⟩
  obtain ⟨_, hcalls⟩ := evFn_sound hX (fun y => y = .ptr id row st (col + o)) m w _ noHeap (id + 1) w (.fn f) _ _ ptrK hH (Below.refl _ w) hu' (by rw [h]; exact rfl)
  refine hcalls.mono ?_
  rintro e w' ⟨y, τ, hp', nx', k1, k2, k3, k4, k5⟩
  cases y with
  | pan z => simp [ptrK, Tree.sat] at k5
  | ret z =>
    simp only [ptrK, Tree.sat] at k5
    subst k5
    cases e with
    | returned v =>
      have k4' : Rep τ (.ptr id row st (col + o)) v := k4
      simp only [Rep] at k4'
      obtain ⟨b', h1, rfl⟩ := k4'
      have h2 : τ id = some b := k1.1 id b (by simp)
      rw [h2] at h1; cases h1
      exact ⟨_, σ.mem, rfl, hm.keep fun n _ _ hv => k3.block n (cell_lt (hm _ _ _ hv)), fun _ _ _ k => k, fun _ _ _ k => .inl k, fun hf => by simp [ptrAt] at hf, fun _ τ' he => by simp only [Rep]; exact ⟨b, he id b hb, rfl⟩, fun h => absurd (show false = true from h) (by decide), k3⟩
    | panicked c => exact k4.elim
    | outgrown => exact k4.elim
/-- a contract in other words -/
theorem q_weak {P : Program} {f : FuncId} {cs rs : List TC} {ok ok' : TCTs cs → Bool} {F F' : TCTs cs → TCTs rs} (h : PureOk P f (spec cs rs ok F)) (hw : ∀ x, WFDs cs x → ok' x = true → ok x = true ∧ F' x = F x) : PureOk P f (spec cs rs ok' F') := by
  intro σ w xs us r hbd hm hu hg
  simp only [spec] at hg
  cases hd : decAs cs xs with
  | none => simp [hd] at hg
  | some x =>
    simp only [hd, Option.some.injEq, Prod.mk.injEq] at hg
    obtain ⟨hok, rfl⟩ := hg
    obtain ⟨h1, h2⟩ := hw x (decAs_enc hd hu σ (.inl rfl)).2 hok
    exact h σ w xs us _ hbd hm hu (by simp only [spec, hd, h1, h2])
end V
end Go.Proofs.Ytgchccljmjmibaa
/- The arguments of a law, as data: whatever the law is handed, its numbers, strings, structs and slices are data in cells that stay. -/
namespace Go.Proofs.Ytgchccljmjmibaa
open Go.RowKit Go.WideShapes Go.ChangeShapes
namespace V

def memW (W : World) (b o : Nat) : Option Value := W.cell? ⟨b, o, none⟩
theorem memW_ok (W : World) : MemOk (memW W) W := fun _ _ _ h => h

def laidF (P : Program) (ok : TypeId → Bool) : List Field → Nat → Option Nat
  | [], off => some off
  | f :: fs, off => bif Nat.beq f.offset off && ok f.type then laidF P ok fs (off + P.cellsOf f.type) else none
/-- a type's cells lie one after another -/
def flatOk (P : Program) : Nat → TypeId → Bool
  | 0, _ => false
  | d + 1, t => match P.underlying t with
    | some (.slice e) => flatOk P d e
    | some (.struct fs) => match laidF P (flatOk P d) fs.toList 0 with
      | some n => Nat.beq n (P.cellsOf t)
      | none => false
    | some (.array n e) => flatOk P d e && Nat.beq (n * P.cellsOf e) (P.cellsOf t)
    | _ => true

theorem wf_in {k : IntKind} {n : Int} (h : (Lit.int k n).wf = true) : inK k n := by
  cases k <;> simp [Lit.wf, IntKind.min, IntKind.max, IntKind.signed, IntKind.bits] at h <;> simp only [inK, minK, maxK] <;> omega

theorem mapM_some_cons {α β : Type} {f : α → Option β} {a : α} {l : List α} {r : List β} (h : (a :: l).mapM f = some r) : ∃ y ys, f a = some y ∧ l.mapM f = some ys ∧ r = y :: ys := by
  simp only [List.mapM_cons, Option.bind_eq_bind, Option.pure_def] at h
  cases h1 : f a with
  | none => simp [h1] at h
  | some y =>
    cases h2 : l.mapM f with
    | none => simp [h1, h2] at h
    | some ys => simp [h1, h2] at h; exact ⟨y, ys, rfl, rfl, h.symm⟩

section
variable {P : Program} {m : Nat → Nat → Option Value}
theorem laidF_le {ok : TypeId → Bool} : ∀ (fs : List Field) (off n : Nat), laidF P ok fs off = some n → off ≤ n
  | [], off, n, h => by simp only [laidF, Option.some.injEq] at h; omega
  | f :: fs, off, n, h => by
    simp only [laidF] at h
    cases hb : (Nat.beq f.offset off && ok f.type) with
    | false => rw [hb] at h; simp at h
    | true => rw [hb, cond_true] at h; have := laidF_le fs _ n h; omega
theorem fields_repD {d : Nat} {cs : List Value} {G : Field → Prop} (ih : ∀ (f : Field) (c : TC), tcOf P d f.type = some c → flatOk P d f.type = true → G f → ∃ y, RepD m c y ((cs.drop f.offset).take (P.cellsOf f.type))) :
    ∀ (fs : List Field) (off n : Nat) (codes : List TC), tcs (tcOf P d) fs = some codes → laidF P (flatOk P d) fs off = some n → (∀ f ∈ fs, G f) → n ≤ cs.length →
      ∃ y, RepDs m codes y ((cs.drop off).take (n - off))
  | [], off, n, codes, h, hl, _, _ => by
    simp only [tcs, Option.some.injEq] at h
    subst h
    simp only [laidF, Option.some.injEq] at hl
    subst hl
    exact ⟨(), by simp [RepDs]⟩
  | f :: fs, off, n, codes, h, hl, hG, hn => by
    simp only [tcs] at h
    split at h <;> try (simp at h; done)
    rename_i c cc h1 h2
    simp only [Option.some.injEq] at h
    subst h
    simp only [laidF] at hl
    cases hb : (Nat.beq f.offset off && flatOk P d f.type) with
    | false => rw [hb] at hl; simp at hl
    | true =>
      rw [hb, cond_true] at hl
      simp only [Bool.and_eq_true, Nat.beq_eq] at hb
      obtain ⟨y, hy⟩ := ih f c h1 hb.2 (hG f (by simp))
      obtain ⟨z, hz⟩ := fields_repD ih fs _ n cc h2 hl (fun g hg => hG g (by simp [hg])) hn
      have hle := laidF_le fs _ n hl
      refine ⟨(y, z), ?_⟩
      simp only [RepDs]
      rw [hb.1] at hy
      refine ⟨_, _, ?_, hy, hz⟩
      have e : n - off = P.cellsOf f.type + (n - (off + P.cellsOf f.type)) := by omega
      rw [e, List.take_add, List.drop_drop]
theorem items_repD {c : TC} {cs : List Value} {sz : Nat} : ∀ (n off : Nat), (∀ i, off ≤ i → i < off + n → ∃ y, RepD m c y ((cs.drop (i * sz)).take sz)) → (off + n) * sz ≤ cs.length → ∃ y, RepDs m (List.replicate n c) y ((cs.drop (off * sz)).take (n * sz))
  | 0, off, _, _ => ⟨(), by simp [RepDs]⟩
  | n + 1, off, h, hl => by
    obtain ⟨y, hy⟩ := h off (Nat.le_refl _) (by omega)
    obtain ⟨z, hz⟩ := items_repD n (off + 1) (fun i h1 h2 => h i (by omega) (by omega)) (by rw [Nat.add_assoc, Nat.add_comm 1 n]; exact hl)
    refine ⟨(y, z), ?_⟩
    show RepDs m (c :: List.replicate n c) (y, z) _
    simp only [RepDs]
    refine ⟨_, _, ?_, hy, hz⟩
    rw [Nat.add_mul n 1 sz, Nat.one_mul, Nat.add_comm (n * sz) sz, List.take_add, List.drop_drop, Nat.add_mul off 1 sz, Nat.one_mul]
end

theorem rows_repD {W : World} {c : TC} {a : Addr} {sz base : Nat} : ∀ (n : Nat), (∀ i, i < n → ∃ cs y, W.cells? base (a.add (i * sz)) sz = some cs ∧ RepD (memW W) c y cs) →
    ∃ (xs : List (TCT c)) (us : List Value), xs.length = n ∧ LR (RepD (memW W) c) xs us ∧ us.length = n * sz ∧ ((us = [] ∨ a.spot = none) ∧ Reads (memW W) a.block a.off us)
  | 0, _ => ⟨[], [], rfl, by simp [LR], by simp, .inl rfl, fun j u h => by simp at h⟩
  | n + 1, h => by
    obtain ⟨xs, us, h1, h2, h3, h4, h5⟩ := rows_repD n fun i hi => h i (by omega)
    obtain ⟨cs, y, k1, k2⟩ := h n (by omega)
    obtain ⟨_, hlen, hcell⟩ := World.cells?_some k1
    have hsp : ∀ j u, cs[j]? = some u → W.cell? ⟨a.block, a.off + (n * sz + j), none⟩ = some u ∧ (n * sz + j = 0 → a.spot = none) := by
      intro j u hj
      have hlt := (List.getElem?_eq_some_iff.1 hj).1
      have hc := hcell j (by omega)
      rw [hj] at hc
      obtain ⟨b, o, s⟩ := a
      rw [addr_add, addr_add] at hc
      have hnone : (if j = 0 then (if n * sz = 0 then s else none) else none) = none := by
        cases hs : (if j = 0 then (if n * sz = 0 then s else none) else none) with
        | none => rfl
        | some q =>
          rw [hs] at hc
          simp only [World.cell?] at hc
          split at hc <;> simp at hc
      rw [hnone, Nat.add_assoc] at hc
      refine ⟨hc, fun e => ?_⟩
      have e1 : n * sz = 0 := by omega
      have e2 : j = 0 := by omega
      rw [if_pos e2, if_pos e1] at hnone
      exact hnone
    refine ⟨xs ++ [y], us ++ cs, by simp [h1], h2.append (by simp only [LR]; exact ⟨cs, [], by simp, k2, rfl⟩), by simp [h3, hlen, Nat.add_mul], ?_, ?_⟩
    · rcases h4 with e | e
      · subst e
        cases cs with
        | nil => exact .inl rfl
        | cons u cs =>
          right
          exact (hsp 0 u rfl).2 (by simp at h3; omega)
      · exact .inr e
    · intro j u hj
      rcases Nat.lt_or_ge j us.length with hlt | hge
      · rw [List.getElem?_append_left hlt] at hj
        exact h5 j u hj
      · rw [List.getElem?_append_right hge] at hj
        have := (hsp _ u hj).1
        show W.cell? ⟨a.block, a.off + j, none⟩ = some u
        rw [← this]; congr 3; omega

section
variable {H : Type} {enc : TypeId × Value → H} {P : Program} {W : World} {base : Nat} {sp : Nat → Bool} {held : Bool}
theorem trod_repD : ∀ (d : Nat) (t : TypeId) (c : TC), tcOf P d t = some c → flatOk P d t = true → ∀ (fuel : Nat) (cs : List Value) (x : DataW H × List MemPlace), DataW.trod enc P W base sp held fuel t cs = some x → ∃ y, RepD (memW W) c y cs
  | 0, _, _, h, _, _, _, _, _ => by simp [tcOf] at h
  | d + 1, t, c, h, hf, fuel, cs, x, ht => by
    cases fuel with
    | zero => simp [DataW.trod] at ht
    | succ fuel =>
      simp only [tcOf] at h
      simp only [flatOk] at hf
      cases hu : P.underlying t with
      | none => simp [hu] at h
      | some desc =>
        unfold DataW.trod at ht
        cases desc <;> simp only [hu] at h hf ht <;> try (simp at h; done)
        case bool =>
          simp only [Option.some.injEq] at h; subst h
          split at ht <;> simp_all
          simp [RepD]
        case int k =>
          simp only [Option.some.injEq] at h; subst h
          split at ht <;> try (simp at ht; done)
          all_goals rename_i heq; try (simp at heq; done)
          have hkk := Option.some.inj heq
          injection hkk with hkk
          subst hkk
          split at ht <;> try (simp at ht; done)
          rename_i hk
          obtain ⟨rfl, hwf⟩ := hk
          exact ⟨_, by simp only [RepD]; exact ⟨rfl, wf_in hwf⟩⟩
        case string =>
          simp only [Option.some.injEq] at h; subst h
          split at ht <;> simp_all
          simp [RepD]
        case slice e =>
          cases hc : tcOf P d e with
          | none => simp [hc] at h
          | some c' =>
            simp only [hc, Option.map_some, Option.some.injEq] at h
            subst h
            have ih := trod_repD d e c' hc hf fuel
            split at ht <;> try (simp at ht; done)
            all_goals try (rename_i heq; simp at heq; done)
            · exact ⟨[], by simp [RepD]⟩
            · rename_i e' a len cap heq
              have hkk := Option.some.inj heq
              injection hkk with hkk
              subst hkk
              split at ht <;> try (simp at ht; done)
              rename_i hk
              obtain ⟨_, h2, h3⟩ := hk
              obtain ⟨elems, he, _⟩ := Option.bind_eq_some_iff.1 ht
              have hrows : ∀ i, i < len → ∃ cs y, W.cells? base (a.add (i * P.cellsOf e)) (P.cellsOf e) = some cs ∧ RepD (memW W) c' y cs := by
                intro i hi
                obtain ⟨z, hz⟩ := mapM_each he i (List.mem_range.2 hi)
                cases hcell : W.cells? base (a.add (i * P.cellsOf e)) (P.cellsOf e) with
                | none => simp [hcell] at hz
                | some cs =>
                  simp only [hcell, Option.bind_some] at hz
                  obtain ⟨y, hy⟩ := ih cs z hz
                  exact ⟨cs, y, rfl, hy⟩
              obtain ⟨xs, us, k1, k2, k3, k4⟩ := rows_repD len hrows
              refine ⟨xs, ?_⟩
              simp only [RepD]
              refine ⟨_, rfl, .inr ⟨a.block, a.off, a.spot, cap, us, by rw [k1], by omega, ?_, k4, k2⟩⟩
              simp only [maxLen] at h3
              simp only [maxK]
              omega
        case struct fs =>
          cases hc : tcs (tcOf P d) fs.toList with
          | none => simp [hc] at h
          | some codes =>
            simp only [hc, Option.map_some, Option.some.injEq] at h
            subst h
            cases hn : laidF P (flatOk P d) fs.toList 0 with
            | none => simp [hn] at hf
            | some n =>
              simp only [hn, Nat.beq_eq] at hf
              by_cases hl : cs.length = P.cellsOf t
              · rw [if_pos hl] at ht
                obtain ⟨ys, hys, _⟩ := Option.map_eq_some_iff.1 ht
                obtain ⟨y, hy⟩ := fields_repD (G := fun f => ∃ x, DataW.trod enc P W base sp held fuel f.type ((cs.drop f.offset).take (P.cellsOf f.type)) = some x) (fun f c h1 h2 ⟨x, hx⟩ => trod_repD d f.type c h1 h2 fuel _ x hx) fs.toList 0 n codes hc hn (fun f hf => mapM_each hys f hf) (by omega)
                refine ⟨y, ?_⟩
                simp only [RepD]
                rw [Nat.sub_zero, List.drop_zero, List.take_of_length_le (by omega)] at hy
                exact hy
              · rw [if_neg hl] at ht; simp at ht
        case array n e =>
          cases hc : tcOf P d e with
          | none => simp [hc] at h
          | some c' =>
            simp only [hc, Option.map_some, Option.some.injEq] at h
            subst h
            simp only [Bool.and_eq_true, Nat.beq_eq] at hf
            by_cases hl : cs.length = P.cellsOf t
            · rw [if_pos hl] at ht
              obtain ⟨ys, hys, _⟩ := Option.map_eq_some_iff.1 ht
              obtain ⟨y, hy⟩ := items_repD (m := memW W) (c := c') (cs := cs) (sz := P.cellsOf e) n 0 (fun i _ hi => by
                obtain ⟨z, hz⟩ := mapM_each hys i (List.mem_range.2 (by omega))
                exact trod_repD d e c' hc hf.1 fuel _ z hz) (by rw [Nat.zero_add]; omega)
              refine ⟨y, ?_⟩
              simp only [RepD]
              rw [Nat.zero_mul, List.drop_zero, List.take_of_length_le (by omega)] at hy
              exact hy
            · rw [if_neg hl] at ht; simp at ht

/-- a code for each parameter -/
def codesOk (P : Program) : List TypeId → List TC → Bool
  | [], [] => true
  | t :: ts, c :: cs => (match tcOf P 8 t with
      | some d => d.beq c
      | none => false) && (flatOk P 8 t && (decide (t < P.types.size) && (P.readableRec t && codesOk P ts cs)))
  | _, _ => false
theorem okWide_agg {w : World} {r : Reach} {b0 : Nat} {t : TypeId} {v : Value} {d : Nat} {c : TC} (hc : tcOf P (d + 1) t = some c) (h : Value.okWide P w r b0 t v) : ((∃ cs, c = .st cs) → ∃ vs : Array Value, v = .agg vs) ∧ ((∀ cs, c ≠ .st cs) → v.oneCell' = true) := by
  simp only [tcOf] at hc
  cases hu : P.underlying t with
  | none => simp [hu] at hc
  | some desc =>
    simp only [Value.okWide, hu] at h
    cases desc <;> simp only [hu] at hc h <;> try (simp at hc; done)
    case struct fs =>
      cases hx : tcs (tcOf P d) fs.toList with
      | none => simp [hx] at hc
      | some l =>
        simp only [hx, Option.map_some, Option.some.injEq] at hc
        subst hc
        obtain ⟨cs, rfl, _⟩ := h
        exact ⟨fun _ => ⟨cs, rfl⟩, fun hh => absurd rfl (hh _)⟩
    case array n e =>
      cases hx : tcOf P d e with
      | none => simp [hx] at hc
      | some l =>
        simp only [hx, Option.map_some, Option.some.injEq] at hc
        subst hc
        obtain ⟨cs, rfl, _⟩ := h
        exact ⟨fun _ => ⟨cs, rfl⟩, fun hh => absurd rfl (hh _)⟩
    all_goals
      refine ⟨fun ⟨cs, e⟩ => ?_, fun _ => ?_⟩
      · subst e; simp at hc
      · simp only [Cell.okWide, hu] at h
        cases v <;> first | rfl | (simp [Cell.ok, hu] at h)
theorem args_rep {w : World} {r : Reach} {b0 : Nat} {τ : Env} (hτ : τ.mem = memW W) : ∀ (ts : List TypeId) (vs : List Value) (ds : List (DataW H)) (ps : List MemPlace) (cs : List TC), codesOk P ts cs = true → DataW.TrodAll enc P W base sp held ts vs ds ps →
    (∀ (j : Nat) (t : TypeId) (v : Value), ts[j]? = some t → vs[j]? = some v → Value.okWide P w r b0 t v) → ∃ y, RepL τ (encAs cs y) vs ∧ WFDs cs y
  | [], [], _, _, [], _, _, _ => ⟨(), by simp only [encAs, RepL], by simp only [WFDs]⟩
  | [], _ :: _, _, _, _, _, h, _ => h.elim
  | _ :: _, [], _, _, _, _, h, _ => h.elim
  | [], [], _, _, _ :: _, h, _, _ => by simp [codesOk] at h
  | _ :: _, _, _, _, [], h, _, _ => by simp [codesOk] at h
  | t :: ts, v :: vs, [], _, c :: cs, _, h, _ => h.elim
  | t :: ts, v :: vs, d :: ds, ps, c :: cs, hc, h, hok => by
    simp only [codesOk, Bool.and_eq_true] at hc
    obtain ⟨hc1, hc2, hc3, hc4, hc5⟩ := hc
    obtain ⟨p, q, ⟨fuel, h1⟩, h2, _⟩ := h
    split at hc1 <;> try (simp at hc1; done)
    rename_i c' hc'
    have := TC.beq_eq _ _ hc1
    subst this
    obtain ⟨y, hy⟩ := trod_repD 8 t c' hc' hc2 fuel _ _ h1
    obtain ⟨z, hz1, hz2⟩ := args_rep hτ ts vs ds q cs hc5 h2 fun j t v hj hv => hok (j + 1) t v hj hv
    obtain ⟨k1, k2⟩ := okWide_agg hc' (hok 0 t v rfl rfl)
    refine ⟨(y, z), ?_, ?_⟩
    · simp only [encAs, RepL]
      exact ⟨v, vs, rfl, encA_rep c' y v (by rw [hτ]; exact hy) k1 k2, hz1⟩
    · simp only [WFDs]; exact ⟨RepD.wf c' y _ hy, hz2⟩
theorem trodAll_stay (hl : laidOutB P = true) {W' : World} (hb : Below W.heap.size W W') : ∀ (ts : List TypeId) (vs : List Value) (ds : List (DataW H)) (ps : List MemPlace) (cs : List TC), codesOk P ts cs = true → DataW.TrodAll enc P W 0 (fun _ => true) true ts vs ds ps →
    (∀ x ∈ ps, x.block < W.heap.size) → ∀ sp : Nat → Bool, (∀ p ∈ ps, sp p.block = true) → DataW.TrodAll enc P W' 0 sp true ts vs ds ps
  | [], [], [], ps, _, _, h, _, _, _ => h
  | [], [], _ :: _, ps, _, _, h, _, _, _ => h.elim
  | [], _ :: _, _, _, _, _, h, _, _, _ => h.elim
  | _ :: _, [], _, _, _, _, h, _, _, _ => h.elim
  | _ :: _, _, _, _, [], h, _, _, _, _ => by simp [codesOk] at h
  | _ :: _, _ :: _, [], _, _ :: _, _, h, _, _, _ => h.elim
  | t :: ts, v :: vs, d :: ds, ps, c :: cs, hc, h, hlt, sp', hsp => by
    simp only [codesOk, Bool.and_eq_true, decide_eq_true_eq] at hc
    obtain ⟨hc1, hc2, hc3, hc4, hc5⟩ := hc
    obtain ⟨p, q, h1, h2, rfl⟩ := h
    refine ⟨p, q, ?_, trodAll_stay hl hb ts vs ds q cs hc5 h2 (fun x hx => hlt x (by simp [hx])) sp' (fun x hx => hsp x (by simp [hx])), rfl⟩
    exact WideElems.Trod_stays hl hc4 hc3 h1 (fun x hx => hb.same (hlt x (by simp [hx]))) (fun x hx => hsp x (by simp [hx]))

theorem trodAll_len : ∀ {ts : List TypeId} {vs : List Value} {ds : List (DataW H)} {ps : List MemPlace}, DataW.TrodAll enc P W base sp held ts vs ds ps → ds.length = ts.length
  | [], [], [], _, _ => rfl
  | [], [], _ :: _, _, h => h.elim
  | [], _ :: _, _, _, h => h.elim
  | _ :: _, [], _, _, h => h.elim
  | _ :: _, _ :: _, [], _, h => h.elim
  | _ :: _, _ :: _, _ :: _, _, ⟨_, _, _, h, _⟩ => congrArg (· + 1) (trodAll_len h)

/-- for all data the law's tree comes out satisfied -/
structure LawSat (X : Ctx) (f : FuncId) (cs : List TC) (m : Nat) : Prop where
  sat : ∀ y : TCTs cs, WFDs cs y → (evFn X m (.fn f) (encAs cs y) noHeap 0 lawK).sat (fun _ => True)
theorem lawSat {X : Ctx} {f : FuncId} {cs : List TC} (m : Nat) (T : TCTs cs → Tree Unit) (hT : ∀ y : TCTs cs, evFn X m (.fn f) (encAs cs y) noHeap 0 lawK = T y) (h : ∀ y : TCTs cs, WFDs cs y → (T y).sat (fun _ => True)) : LawSat X f cs m :=
  ⟨fun y hw => by rw [hT y]; exact h y hw⟩
/-- A law's contract from its evaluation: for all data the tree comes out satisfied. -/
theorem law_contract {X : Ctx} (hX : CtxOk X) {P : Program} (hP : X.P = P) (hl : laidOutB P = true) {f : FuncId} {fn : Func} {s : ChangeSpec} {apart fresh handsOn again : Bool} {tb : TypeId} (cs : List TC) (m : Nat)
    (hvars : s.vars = []) (hcs : codesOk P fn.params.toList cs = true) (hr : fn.resultTypes = #[tb]) (hu : P.underlying tb = some .bool)
    (n : Nat) (hn : fn.params.toList.length = n) (hs : ∀ ds : List (DataW H), ds.length = n → s.fn H ds = { results := [.lit (.bool true)], args := ds, vars := [] })
    (hsat : LawSat X f cs m)
    {args : Array Value} {ds gs : List (DataW H)} {before : List MemPlace} {base : Nat}
    (hval : ∀ (j : Nat) t v, fn.params[j]? = some t → args[j]? = some v → Value.okWide P W .any base t v)
    (hW : DataW.Whole enc P fn.params.toList s.vars apart W args.toList ds gs before) :
    Calls P f args W fun e W' => ∃ v, e = .returned v ∧ s.post enc P fn apart fresh handsOn again W args v W' := by
  subst hP
  have hW' := hW
  obtain ⟨p, q, hA, hV, rfl, hfz, hnd⟩ := hW
  have hlt : ∀ x ∈ p ++ q, x.block < W.heap.size := fun x hx => hW'.lt x hx
  rw [hvars] at hV
  obtain ⟨rfl, rfl⟩ := trodVars_none hV
  obtain ⟨y, hy, hwf⟩ := args_rep (τ := env0 (memW W)) rfl fn.params.toList args.toList ds p cs hcs hA (w := W) (r := .any) (b0 := base) fun j t v hj hv => hval j t v (by simpa using hj) (by simpa using hv)
  have hc := law_calls hX m (memW_ok W) hy (hsat.sat y hwf)
  rw [show args.toList.toArray = args from by simp] at hc
  refine hc.mono ?_
  rintro e W' ⟨rfl, hb⟩
  have hfn := hs ds ((trodAll_len hA).trans hn)
  refine ⟨_, rfl, post_law (pa := p) (pv := []) hW' (fun _ _ _ => ?_) (fun sp hsp => ?_) (fun sp _ => ?_) (by simp) hb (ok_one hr rfl (okWide_bool_mk hu _))⟩
  · rw [List.append_nil, hfn, hr]
    exact trodAll_cons_mk (shut_bool hu _) trodAll_mk0
  · rw [List.append_nil, hfn]
    exact trodAll_stay hl hb _ _ _ _ cs hcs hA (fun x hx => hlt x (by simp [hx])) sp (fun x hx => hsp x (by simp [hx]))
  · rw [List.append_nil, hfn, hvars]
    rfl
end
end V
end Go.Proofs.Ytgchccljmjmibaa
