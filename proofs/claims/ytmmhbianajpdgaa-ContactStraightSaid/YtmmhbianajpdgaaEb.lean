/- That the symbolic evaluator of the text Ea is sound, first part: how symbolic values stand for the model's values; lists, parts, aggregates, equality. -/
import Derived.Test.YtmmhbianajpdgaaEa
namespace Go.Proofs.Ytmmhbianajpdgaa
open Go.RowKit
namespace Ev

mutual
def Rep (σ : Nat → Option Nat) : AV → Value → Prop
  | .bool b, v => v = .bool b
  | .int k n, v => v = .int k n ∧ inK k n
  | .ptr id row st col, v => ∃ b, σ id = some b ∧ v = .pointer (some ⟨b, row * st + col, none⟩)
  | .nilp, v => v = .pointer none
  | .sl id row st len cap, v => (len : Int) ≤ maxK .i64 ∧ (cap : Int) ≤ maxK .i64 ∧ ∃ b, σ id = some b ∧ v = .slice (some ⟨b, row * st, none⟩) len cap
  | .val u, v => v = u
  | .agg cs, v => ∃ vs, RepL σ cs vs ∧ v = .agg vs.toArray
  | .tup cs, v => ∃ vs, RepL σ cs vs ∧ v = .tuple vs.toArray
  | .fn f a c, v => ∃ x y, RepL σ a x ∧ RepL σ c y ∧ v = .func f x.toArray y.toArray
  | .top, _ => True
def RepL (σ : Nat → Option Nat) : List AV → List Value → Prop
  | [], vs => vs = []
  | x :: xs, vs => ∃ v us, vs = v :: us ∧ Rep σ x v ∧ RepL σ xs us
end

def Ext (σ τ : Nat → Option Nat) : Prop := ∀ i b, σ i = some b → τ i = some b
theorem Ext.refl (σ : Nat → Option Nat) : Ext σ σ := fun _ _ h => h
theorem Ext.trans {σ τ ρ : Nat → Option Nat} (h : Ext σ τ) (k : Ext τ ρ) : Ext σ ρ := fun i b x => k i b (h i b x)

mutual
theorem Rep.mono {σ τ : Nat → Option Nat} (e : Ext σ τ) : ∀ (x : AV) (v : Value), Rep σ x v → Rep τ x v
  | .bool _, _, h => by simpa only [Rep] using h
  | .int _ _, _, h => by simpa only [Rep] using h
  | .ptr id row st col, v, h => by
    simp only [Rep] at h ⊢
    obtain ⟨b, h1, h2⟩ := h
    exact ⟨b, e _ _ h1, h2⟩
  | .nilp, _, h => by simpa only [Rep] using h
  | .sl id row st len cap, v, h => by
    simp only [Rep] at h ⊢
    obtain ⟨h0, h0', b, h1, h2⟩ := h
    exact ⟨h0, h0', b, e _ _ h1, h2⟩
  | .val _, _, h => by simpa only [Rep] using h
  | .agg cs, v, h => by
    simp only [Rep] at h ⊢
    obtain ⟨vs, h1, h2⟩ := h
    exact ⟨vs, RepL.mono e cs vs h1, h2⟩
  | .tup cs, v, h => by
    simp only [Rep] at h ⊢
    obtain ⟨vs, h1, h2⟩ := h
    exact ⟨vs, RepL.mono e cs vs h1, h2⟩
  | .fn f a c, v, h => by
    simp only [Rep] at h ⊢
    obtain ⟨x, y, h1, h2, h3⟩ := h
    exact ⟨x, y, RepL.mono e a x h1, RepL.mono e c y h2, h3⟩
  | .top, _, _ => by simp only [Rep]
theorem RepL.mono {σ τ : Nat → Option Nat} (e : Ext σ τ) : ∀ (xs : List AV) (vs : List Value), RepL σ xs vs → RepL τ xs vs
  | [], _, h => by simpa only [RepL] using h
  | x :: xs, vs, h => by
    simp only [RepL] at h ⊢
    obtain ⟨v, us, h1, h2, h3⟩ := h
    exact ⟨v, us, h1, Rep.mono e x v h2, RepL.mono e xs us h3⟩
end

theorem lenA_eq {β : Type} (l : List β) : lenA l = l.length := by induction l <;> simp [lenA, *]
theorem nth_eq {β : Type} (l : List β) (n : Nat) : nth l n = l[n]? := by
  induction l generalizing n with
  | nil => simp [nth]
  | cons x l ih => cases n <;> simp [nth, ih]
theorem takeA_eq {β : Type} (n : Nat) (l : List β) : takeA n l = l.take n := by
  induction n generalizing l with
  | zero => simp [takeA]
  | succ n ih => cases l <;> simp [takeA, ih]
theorem dropA_eq {β : Type} (n : Nat) (l : List β) : dropA n l = l.drop n := by
  induction n generalizing l with
  | zero => simp [dropA]
  | succ n ih => cases l <;> simp [dropA, ih]
theorem setA_eq {β : Type} (l : List β) (n : Nat) (y : β) : setA l n y = l.set n y := by
  induction l generalizing n with
  | nil => simp [setA]
  | cons x l ih => cases n <;> simp [setA, ih]

theorem repL_iff {σ : Nat → Option Nat} : ∀ {xs : List AV} {vs : List Value}, RepL σ xs vs ↔ xs.length = vs.length ∧ ∀ (i : Nat) (x : AV) (v : Value), xs[i]? = some x → vs[i]? = some v → Rep σ x v
  | [], vs => by
    simp only [RepL]
    constructor
    · rintro rfl; simp
    · rintro ⟨h, _⟩; exact List.eq_nil_of_length_eq_zero (by simpa using h.symm)
  | x :: xs, vs => by
    simp only [RepL]
    constructor
    · rintro ⟨v, us, rfl, h1, h2⟩
      obtain ⟨h3, h4⟩ := repL_iff.1 h2
      refine ⟨by simp [h3], fun i y u hy hu => ?_⟩
      cases i with
      | zero => simp at hy hu; subst hy; subst hu; exact h1
      | succ i => exact h4 i y u (by simpa using hy) (by simpa using hu)
    · rintro ⟨h1, h2⟩
      cases vs with
      | nil => simp at h1
      | cons v us =>
        refine ⟨v, us, rfl, h2 0 x v rfl rfl, repL_iff.2 ⟨by simpa using h1, fun i y u hy hu => h2 (i + 1) y u (by simpa using hy) (by simpa using hu)⟩⟩

theorem RepL.length {σ : Nat → Option Nat} {xs : List AV} {vs : List Value} (h : RepL σ xs vs) : xs.length = vs.length := (repL_iff.1 h).1
theorem RepL.get {σ : Nat → Option Nat} {xs : List AV} {vs : List Value} (h : RepL σ xs vs) {i : Nat} {x : AV} (hx : xs[i]? = some x) : ∃ v, vs[i]? = some v ∧ Rep σ x v := by
  obtain ⟨h1, h2⟩ := repL_iff.1 h
  have hi : i < vs.length := by rw [← h1]; exact (List.getElem?_eq_some_iff.1 hx).1
  exact ⟨vs[i], List.getElem?_eq_getElem hi, h2 i x _ hx (List.getElem?_eq_getElem hi)⟩
theorem RepL.take {σ : Nat → Option Nat} {xs : List AV} {vs : List Value} (h : RepL σ xs vs) (n : Nat) : RepL σ (xs.take n) (vs.take n) := by
  obtain ⟨h1, h2⟩ := repL_iff.1 h
  refine repL_iff.2 ⟨by simp [h1], fun i x v hx hv => ?_⟩
  simp only [List.getElem?_take] at hx hv
  split at hx
  · rename_i hi; rw [if_pos hi] at hv; exact h2 i x v hx hv
  · simp at hx
theorem RepL.drop {σ : Nat → Option Nat} {xs : List AV} {vs : List Value} (h : RepL σ xs vs) (n : Nat) : RepL σ (xs.drop n) (vs.drop n) := by
  obtain ⟨h1, h2⟩ := repL_iff.1 h
  refine repL_iff.2 ⟨by simp [h1], fun i x v hx hv => ?_⟩
  simp only [List.getElem?_drop] at hx hv
  exact h2 _ x v hx hv
theorem RepL.append {σ : Nat → Option Nat} {xs ys : List AV} {vs us : List Value} (h : RepL σ xs vs) (k : RepL σ ys us) : RepL σ (xs ++ ys) (vs ++ us) := by
  obtain ⟨h1, h2⟩ := repL_iff.1 h
  obtain ⟨k1, k2⟩ := repL_iff.1 k
  refine repL_iff.2 ⟨by simp [h1, k1], fun i x v hx hv => ?_⟩
  rw [List.getElem?_append] at hx hv
  rw [h1] at hx
  split at hx
  · rename_i hi; rw [if_pos hi] at hv; exact h2 i x v hx hv
  · rename_i hi; rw [if_neg hi] at hv; exact k2 _ x v hx hv
theorem RepL.set {σ : Nat → Option Nat} {xs : List AV} {vs : List Value} (h : RepL σ xs vs) {n : Nat} {y : AV} {u : Value} (hy : Rep σ y u) : RepL σ (xs.set n y) (vs.set n u) := by
  obtain ⟨h1, h2⟩ := repL_iff.1 h
  refine repL_iff.2 ⟨by simp [h1], fun i x v hx hv => ?_⟩
  rw [List.getElem?_set] at hx hv
  by_cases hni : n = i
  · subst hni
    by_cases hlt : n < xs.length
    · have hlt' : n < vs.length := h1 ▸ hlt
      simp [hlt] at hx; simp [hlt'] at hv; subst hx; subst hv; exact hy
    · simp [hlt] at hx
  · simp [hni] at hx hv; exact h2 i x v hx hv
theorem RepL.map {σ : Nat → Option Nat} {β : Type} {f : β → AV} {g : β → Value} (h : ∀ b, Rep σ (f b) (g b)) : ∀ (l : List β), RepL σ (l.map f) (l.map g)
  | [] => by simp [RepL]
  | b :: l => by simp only [List.map_cons, RepL]; exact ⟨g b, l.map g, rfl, h b, RepL.map h l⟩

theorem inKB_spec {k : IntKind} {n : Int} : inKB k n = true ↔ inK k n := by simp [inKB, inK]
theorem wrap_in (k : IntKind) (n : Int) : inK k (k.wrap n) := by
  unfold inK IntKind.wrap
  cases k <;> simp [IntKind.bits, IntKind.signed, minK, maxK] <;> (try split) <;> omega
theorem rep_int {σ : Nat → Option Nat} {k : IntKind} {n : Int} (h : inK k n) : Rep σ (.int k n) (.int k n) := by simp only [Rep]; exact ⟨trivial, h⟩
theorem rep_wrap {σ : Nat → Option Nat} (k : IntKind) (n : Int) : Rep σ (.int k (k.wrap n)) (.int k (k.wrap n)) := rep_int (wrap_in k n)
theorem rep_bool {σ : Nat → Option Nat} (b : Bool) : Rep σ (.bool b) (.bool b) := by simp only [Rep]
theorem rep_ofCell (σ : Nat → Option Nat) (v : Value) : Rep σ (ofCell v) v := by
  cases v with
  | func f a c =>
    simp only [ofCell]
    cases h : a.isEmpty && c.isEmpty with
    | true =>
      simp at h
      simp only [cond_true, Rep]
      exact ⟨[], [], by simp [RepL], by simp [RepL], by simp [h.1, h.2]⟩
    | false => simp [Rep]
  | pointer a => cases a <;> simp [ofCell, Rep]
  | int k n =>
    simp only [ofCell]
    cases h : inKB k n with
    | true => exact rep_int (inKB_spec.1 h)
    | false => simp [Rep]
  | _ => simp [ofCell, Rep]
theorem repL_ofCell (σ : Nat → Option Nat) (l : List Value) : RepL σ (l.map ofCell) l := by
  have := RepL.map (σ := σ) (f := ofCell) (g := id) (fun v => rep_ofCell σ v) l
  simpa using this
theorem rep_ofV (σ : Nat → Option Nat) (v : Value) : Rep σ (ofV v) v := by
  cases v with
  | agg cs => simp only [ofV, Rep]; exact ⟨cs.toList, repL_ofCell σ _, by simp⟩
  | _ => simp only [ofV]; exact rep_ofCell σ _
theorem one_cell {σ : Nat → Option Nat} {x : AV} {v : Value} (h : Rep σ x v) (ho : one x = true) : v.oneCell' = true := by
  cases x <;> simp only [one, Rep] at h ho <;> first | (subst h; first | rfl | exact ho) | (obtain ⟨rfl, _⟩ := h; rfl) | (obtain ⟨_, _, _, rfl⟩ := h; rfl) | (obtain ⟨_, _, _, _, rfl⟩ := h; rfl) | (obtain ⟨_, _, rfl⟩ := h; rfl) | (obtain ⟨_, _, _, _, rfl⟩ := h; rfl) | simp at ho
theorem one_cells {v : Value} (h : v.oneCell' = true) : v.cells = #[v] := by cases v <;> first | rfl | (simp [Value.oneCell'] at h)
theorem rep_cells {σ : Nat → Option Nat} {x : AV} {v : Value} {cs : List AV} (h : Rep σ x v) (hc : cellsA x = some cs) : RepL σ cs v.cells.toList := by
  have key : ∀ (y : AV), Rep σ y v → (bif one y then some [y] else none) = some cs → RepL σ cs v.cells.toList := by
    intro y hy hh
    cases ho : one y with
    | false => simp [ho] at hh
    | true =>
      simp [ho] at hh; subst hh
      rw [one_cells (one_cell hy ho)]
      simp only [RepL]
      exact ⟨v, [], by simp, hy, rfl⟩
  cases x with
  | agg xs =>
    simp [cellsA] at hc; subst hc
    simp only [Rep] at h
    obtain ⟨vs, h1, rfl⟩ := h
    simpa [Value.cells] using h1
  | _ => exact key _ h (by simpa [cellsA] using hc)

theorem setsA_rep {σ : Nat → Option Nat} : ∀ (ys : List AV) (us : List Value) (off : Nat) (xs : List AV) (vs : List Value), RepL σ xs vs → RepL σ ys us → RepL σ (setsA xs off ys) (setsA vs off us)
  | [], us, off, xs, vs, h, k => by simp only [RepL] at k; subst k; simpa [setsA] using h
  | y :: ys, us, off, xs, vs, h, k => by
    simp only [RepL] at k
    obtain ⟨u, us', rfl, k1, k2⟩ := k
    simp only [setsA, setA_eq]
    exact setsA_rep ys us' (off + 1) _ _ (h.set k1) k2
theorem setsA_length {β : Type} : ∀ (ys : List β) (off : Nat) (xs : List β), (setsA xs off ys).length = xs.length
  | [], _, _ => rfl
  | y :: ys, off, xs => by simp [setsA, setA_eq, setsA_length ys]
theorem foldl_sets : ∀ (l : List Value) (off k : Nat) (cur : Array Value), (l.zipIdx k).foldl (fun cs (p : Value × Nat) => cs.setIfInBounds (off + p.2) p.1) cur = (setsA cur.toList (off + k) l).toArray
  | [], off, k, cur => by simp [setsA]
  | v :: l, off, k, cur => by
    simp only [List.zipIdx_cons, List.foldl_cons, setsA, setA_eq]
    rw [foldl_sets l off (k + 1)]
    simp [Nat.add_assoc]

theorem fill_rep {σ : Nat → Option Nat} (place : Nat → Option (Nat × Nat)) : ∀ (parts : List (Nat × AV)) (qs : List (Nat × Value)) (xs : List AV) (vs : List Value) (r : List AV), RepL σ xs vs →
    (parts.length = qs.length ∧ ∀ (i : Nat) (p : Nat × AV) (q : Nat × Value), parts[i]? = some p → qs[i]? = some q → p.1 = q.1 ∧ Rep σ p.2 q.2) →
    fillA place xs parts = some r → ∃ us, Instr.fill place vs.toArray qs = some us.toArray ∧ RepL σ r us ∧ us.length = vs.length
  | [], qs, xs, vs, r, h, hp, hf => by
    have : qs = [] := List.eq_nil_of_length_eq_zero (by simpa using hp.1.symm)
    subst this
    simp [fillA] at hf; subst hf
    exact ⟨vs, by simp [Instr.fill], h, rfl⟩
  | (i, x) :: parts, qs, xs, vs, r, h, hp, hf => by
    cases qs with
    | nil => simp at hp
    | cons q qs =>
      obtain ⟨j, v⟩ := q
      have h0 := hp.2 0 (i, x) (j, v) rfl rfl
      simp only at h0
      obtain ⟨rfl, hx⟩ := h0
      simp only [fillA] at hf
      cases hpl : place i with
      | none => simp [hpl] at hf
      | some os =>
        obtain ⟨off, size⟩ := os
        cases hc : cellsA x with
        | none => simp [hpl, hc] at hf
        | some cs =>
          simp only [hpl, hc] at hf
          have hcr := rep_cells hx hc
          have hl := hcr.length
          cases hb : (Nat.beq (lenA cs) size && Nat.ble (off + lenA cs) (lenA xs)) with
          | false => simp [hb] at hf
          | true =>
            simp only [hb, cond_true] at hf
            simp only [Bool.and_eq_true, Nat.beq_eq, Nat.ble_eq, lenA_eq] at hb
            have hlen := h.length
            have ih := fill_rep place parts qs (setsA xs off cs) (setsA vs off v.cells.toList) r (setsA_rep _ _ _ _ _ h hcr)
              ⟨by simpa using hp.1, fun k p q hp' hq' => hp.2 (k + 1) p q (by simpa using hp') (by simpa using hq')⟩ hf
            obtain ⟨us, hu1, hu2, hu3⟩ := ih
            refine ⟨us, ?_, hu2, by rw [hu3, setsA_length]⟩
            simp only [Instr.fill, hpl]
            have hsz : v.cells.size = cs.length := by rw [hl]; simp
            have hvs : vs.toArray.size = xs.length := by simp [hlen]
            rw [if_neg (by simp only [hsz, hvs]; simp; exact ⟨hb.1, hb.2⟩)]
            have hfold : v.cells.zipIdx.foldl (fun cs (p : Value × Nat) => cs.setIfInBounds (off + p.2) p.1) vs.toArray = (setsA vs off v.cells.toList).toArray := by
              have := foldl_sets v.cells.toList off 0 vs.toArray
              simp only [Nat.add_zero] at this
              rw [← this, ← Array.foldl_toList]
              congr 1
              simp
            rw [hfold]
            exact hu1

section
variable {P : Program}
theorem run_size {t : TypeId} {s : Nat} (h : sizeT P t = some s) (w : World) : (sizeOf t).run P w = .ok s w := by
  unfold sizeT at h
  cases hi : P.info? t with
  | none => simp [hi] at h
  | some i => simp [hi] at h; simp [sizeOf, typeInfo, hi, h]
theorem run_agg {t : TypeId} {b : Bool} (h : isAggT P t = some b) (w : World) : (isAgg t).run P w = .ok b w := by
  unfold isAggT at h
  unfold isAgg
  rw [Sem.run_bind]
  cases hu : P.underlying t with
  | none => simp [hu] at h
  | some d =>
    rw [run_underlying hu w]
    cases d <;> simp [hu] at h <;> subst h <;> rfl
theorem run_zero {σ : Nat → Option Nat} {t : TypeId} {z : List AV} (h : zeroT P t = some z) (w : World) : ∃ v, (zeroValue t).run P w = .ok v w ∧ RepL σ z v.cells.toList := by
  unfold zeroT at h
  cases hi : P.info? t with
  | none => simp [hi] at h
  | some i =>
    cases hz : i.zero with
    | none => simp [hi, hz] at h
    | some v =>
      simp [hi, hz] at h; subst h
      exact ⟨v, by simp [zeroValue, typeInfo, hi, hz], repL_ofCell σ _⟩
theorem run_part {σ : Nat → Option Nat} {t : TypeId} {cs : List AV} {vs : List Value} {off : Nat} {x : AV} (h : RepL σ cs vs) (hp : partA P t cs off = some x) (w : World) : ∃ v, (part t vs.toArray off).run P w = .ok v w ∧ Rep σ x v := by
  unfold partA at hp
  cases ha : isAggT P t with
  | none => simp [ha] at hp
  | some b =>
    unfold part
    rw [Sem.run_bind, run_agg ha w]
    cases b with
    | true =>
      cases hs : sizeT P t with
      | none => simp [ha, hs] at hp
      | some s =>
        simp only [ha, hs] at hp
        cases hb : Nat.ble (off + s) (lenA cs) with
        | false => simp [hb] at hp
        | true =>
          simp [hb, takeA_eq, dropA_eq] at hp
          subst hp
          simp only [Result.andThen_ok, if_true, Sem.run_bind, run_size hs w, Sem.run_pure]
          refine ⟨_, rfl, ?_⟩
          simp only [Rep]
          refine ⟨(vs.drop off).take s, (h.drop off).take s, ?_⟩
          congr 1
          simp [List.drop_take]
    | false =>
      simp only [ha, nth_eq] at hp
      obtain ⟨v, hv, hr⟩ := h.get hp
      refine ⟨v, ?_, hr⟩
      simp [hv]
end
end Ev
end Go.Proofs.Ytmmhbianajpdgaa
