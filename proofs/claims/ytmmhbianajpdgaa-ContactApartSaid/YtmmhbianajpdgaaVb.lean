/- That the symbolic evaluator of the text Va is sound, first part: how symbolic values stand for the model's values; plain data; lists, parts, aggregates. -/
import Derived.Test.YtmmhbianajpdgaaVa
namespace Go.Proofs.Ytmmhbianajpdgaa
open Go.RowKit
namespace V

/-- the numbers of blocks; cells that stay as they are; the slices of the call's own lists -/
structure Env where
  at_ : Nat → Option Nat
  mem : Nat → Nat → Option Value
  sv : Nat → Option Value
  low : Nat → Nat → Option Value
instance : CoeFun Env (fun _ => Nat → Option Nat) := ⟨Env.at_⟩

/-! plain data in cells that stay -/
def Reads (mem : Nat → Nat → Option Value) (b o : Nat) (vs : List Value) : Prop := ∀ (j : Nat) (u : Value), vs[j]? = some u → mem b (o + j) = some u
def LR {T : Type} (R : T → List Value → Prop) : List T → List Value → Prop
  | [], vs => vs = []
  | x :: xs, vs => ∃ a b, vs = a ++ b ∧ R x a ∧ LR R xs b
mutual
def RepD (mem : Nat → Nat → Option Value) : (c : TC) → TCT c → List Value → Prop
  | .b, x, vs => vs = [.bool x]
  | .i k, n, vs => vs = [.int k n] ∧ inK k n
  | .s, x, vs => vs = [.string x]
  | .sl c, xs, vs => ∃ v, vs = [v] ∧ ((v = .slice none 0 0 ∧ xs = []) ∨ ∃ b o s cap us, v = .slice (some ⟨b, o, s⟩) xs.length cap ∧ xs.length ≤ cap ∧ (cap : Int) ≤ maxK .i64 ∧ ((us = [] ∨ s = none) ∧ Reads mem b o us) ∧ LR (RepD mem c) xs us)
  | .st cs, x, vs => RepDs mem cs x vs
def RepDs (mem : Nat → Nat → Option Value) : (cs : List TC) → TCTs cs → List Value → Prop
  | [], _, vs => vs = []
  | c :: cs, x, vs => ∃ a b, vs = a ++ b ∧ RepD mem c x.1 a ∧ RepDs mem cs x.2 b
end
theorem LR.mono {T : Type} {R S : T → List Value → Prop} (h : ∀ x vs, R x vs → S x vs) : ∀ {xs : List T} {vs : List Value}, LR R xs vs → LR S xs vs
  | [], _, k => k
  | x :: xs, vs, ⟨a, b, e, k1, k2⟩ => ⟨a, b, e, h x a k1, LR.mono h k2⟩
theorem Reads.mono {m m' : Nat → Nat → Option Value} (h : ∀ b o v, m b o = some v → m' b o = some v) {b o : Nat} {vs : List Value} (k : Reads m b o vs) : Reads m' b o vs := fun j u hj => h _ _ _ (k j u hj)
mutual
theorem RepD.mono {m m' : Nat → Nat → Option Value} (h : ∀ b o v, m b o = some v → m' b o = some v) : ∀ (c : TC) (x : TCT c) (vs : List Value), RepD m c x vs → RepD m' c x vs
  | .b, _, _, k => by simpa only [RepD] using k
  | .i _, _, _, k => by simpa only [RepD] using k
  | .s, _, _, k => by simpa only [RepD] using k
  | .sl c, xs, vs, k => by
    simp only [RepD] at k ⊢
    obtain ⟨v, e, k⟩ := k
    refine ⟨v, e, ?_⟩
    rcases k with k | ⟨b, o, s, cap, us, k1, k2, k3, k4, k5⟩
    · exact .inl k
    · exact .inr ⟨b, o, s, cap, us, k1, k2, k3, ⟨k4.1, k4.2.mono h⟩, LR.mono (fun x vs => RepD.mono h c x vs) k5⟩
  | .st cs, x, vs, k => by simp only [RepD] at k ⊢; exact RepDs.mono h cs x vs k
theorem RepDs.mono {m m' : Nat → Nat → Option Value} (h : ∀ b o v, m b o = some v → m' b o = some v) : ∀ (cs : List TC) (x : TCTs cs) (vs : List Value), RepDs m cs x vs → RepDs m' cs x vs
  | [], _, _, k => by simpa only [RepDs] using k
  | c :: cs, x, vs, k => by
    simp only [RepDs] at k ⊢
    obtain ⟨a, b, e, k1, k2⟩ := k
    exact ⟨a, b, e, RepD.mono h c x.1 a k1, RepDs.mono h cs x.2 b k2⟩
end
mutual
theorem RepD.len {m : Nat → Nat → Option Value} : ∀ (c : TC) (x : TCT c) (vs : List Value), RepD m c x vs → vs.length = c.size
  | .b, _, _, k => by simp only [RepD] at k; subst k; rfl
  | .i _, _, _, k => by simp only [RepD] at k; rw [k.1]; rfl
  | .s, _, _, k => by simp only [RepD] at k; subst k; rfl
  | .sl c, xs, vs, k => by simp only [RepD] at k; obtain ⟨v, e, _⟩ := k; subst e; rfl
  | .st cs, x, vs, k => by simp only [RepD] at k; simp only [TC.size]; exact RepDs.len cs x vs k
theorem RepDs.len {m : Nat → Nat → Option Value} : ∀ (cs : List TC) (x : TCTs cs) (vs : List Value), RepDs m cs x vs → vs.length = sizes cs
  | [], _, _, k => by simp only [RepDs] at k; subst k; rfl
  | c :: cs, x, vs, k => by
    simp only [RepDs] at k
    obtain ⟨a, b, e, k1, k2⟩ := k
    subst e
    simp only [List.length_append, sizes, RepD.len c x.1 a k1, RepDs.len cs x.2 b k2]
end
theorem LR.len {T : Type} {R : T → List Value → Prop} {n : Nat} (h : ∀ x vs, R x vs → vs.length = n) : ∀ {xs : List T} {vs : List Value}, LR R xs vs → vs.length = xs.length * n
  | [], _, k => by simp only [LR] at k; subst k; simp
  | x :: xs, vs, ⟨a, b, e, k1, k2⟩ => by
    subst e
    simp only [List.length_append, h x a k1, LR.len h k2, List.length_cons, Nat.add_mul, Nat.one_mul, Nat.add_comm]
theorem getA_eq {β : Type} (l : List β) (n : Nat) (d : β) : getA l n d = l.getD n d := by
  induction l generalizing n with
  | nil => simp [getA]
  | cons x l ih => cases n <;> simp [getA, ih]
theorem LR.get {T : Type} {R : T → List Value → Prop} {n : Nat} (h : ∀ x vs, R x vs → vs.length = n) : ∀ {xs : List T} {vs : List Value} (i : Nat) (d : T), LR R xs vs → i < xs.length → R (getA xs i d) ((vs.drop (i * n)).take n)
  | [], _, i, _, _, hi => by simp at hi
  | x :: xs, vs, i, d, ⟨a, b, e, k1, k2⟩, hi => by
    subst e
    have ha := h x a k1
    cases i with
    | zero => simp only [getA, Nat.zero_mul, List.drop_zero]; rw [← ha, List.take_left]; exact k1
    | succ i =>
      have := LR.get h i d k2 (by simpa using hi)
      simp only [getA, Nat.add_mul, Nat.one_mul]
      rw [show i * n + n = a.length + i * n by omega, List.drop_length_add_append]
      exact this
theorem LR.append {T : Type} {R : T → List Value → Prop} : ∀ {xs ys : List T} {vs us : List Value}, LR R xs vs → LR R ys us → LR R (xs ++ ys) (vs ++ us)
  | [], ys, vs, us, h, k => by simp only [LR] at h; subst h; simpa using k
  | x :: xs, ys, vs, us, ⟨a, b, e, k1, k2⟩, k => by
    subst e
    exact ⟨a, b ++ us, by simp, k1, LR.append k2 k⟩
theorem setA_eq {β : Type} (l : List β) (n : Nat) (y : β) : setA l n y = l.set n y := by
  induction l generalizing n with
  | nil => simp [setA]
  | cons x l ih => cases n <;> simp [setA, ih]
theorem setsA_past : ∀ (us a b : List Value) (k : Nat), setsA (a ++ b) (a.length + k) us = a ++ setsA b k us
  | [], a, b, k => rfl
  | u :: us, a, b, k => by
    simp only [setsA, setA_eq]
    have e : (a ++ b).set (a.length + k) u = a ++ b.set k u := by
      rw [List.set_append_right _ _ (by omega)]; congr 2; omega
    rw [e, Nat.add_assoc]
    exact setsA_past us a _ (k + 1)
theorem setsA_front : ∀ (us a b : List Value), us.length = a.length → setsA (a ++ b) 0 us = us ++ b
  | [], a, b, h => by cases a <;> simp [setsA] at h ⊢
  | u :: us, [], b, h => by simp at h
  | u :: us, x :: a, b, h => by
    simp only [setsA, setA_eq, List.cons_append, List.set_cons_zero]
    have := setsA_past us [u] (a ++ b) 0
    simp only [List.cons_append, List.nil_append, List.length_singleton, Nat.add_zero, Nat.zero_add] at this ⊢
    rw [this, setsA_front us a b (by simpa using h)]
theorem LR.set {T : Type} {R : T → List Value → Prop} {n : Nat} (h : ∀ x vs, R x vs → vs.length = n) : ∀ {xs : List T} {vs us : List Value} (i : Nat) (y : T), LR R xs vs → R y us → i < xs.length → LR R (xs.set i y) (setsA vs (i * n) us)
  | [], _, _, i, _, _, _, hi => by simp at hi
  | x :: xs, vs, us, i, y, ⟨a, b, e, k1, k2⟩, hy, hi => by
    subst e
    have ha := h x a k1
    have hu := h y us hy
    cases i with
    | zero =>
      simp only [List.set_cons_zero, Nat.zero_mul]
      refine ⟨us, b, ?_, hy, k2⟩
      exact setsA_front us a b (by omega)
    | succ i =>
      simp only [List.set_cons_succ, Nat.add_mul, Nat.one_mul]
      refine ⟨a, setsA b (i * n) us, ?_, k1, LR.set h i y k2 hy (by simpa using hi)⟩
      rw [show i * n + n = a.length + i * n by omega]
      exact setsA_past us a b (i * n)
theorem LR.take {T : Type} {R : T → List Value → Prop} {n : Nat} (h : ∀ x vs, R x vs → vs.length = n) : ∀ {xs : List T} {vs : List Value} (i : Nat), LR R xs vs → i ≤ xs.length → LR R (xs.take i) (vs.take (i * n))
  | xs, vs, 0, _, _ => by simp [LR]
  | [], _, i + 1, _, hi => by simp at hi
  | x :: xs, vs, i + 1, ⟨a, b, e, k1, k2⟩, hi => by
    subst e
    have ha := h x a k1
    refine ⟨a, b.take (i * n), ?_, k1, LR.take h i k2 (by simpa using hi)⟩
    rw [Nat.add_mul, Nat.one_mul, show i * n + n = a.length + i * n by omega, List.take_length_add_append]
theorem LR.drop {T : Type} {R : T → List Value → Prop} {n : Nat} (h : ∀ x vs, R x vs → vs.length = n) : ∀ {xs : List T} {vs : List Value} (i : Nat), LR R xs vs → i ≤ xs.length → LR R (xs.drop i) (vs.drop (i * n))
  | xs, vs, 0, k, _ => by simpa using k
  | [], _, i + 1, _, hi => by simp at hi
  | x :: xs, vs, i + 1, ⟨a, b, e, k1, k2⟩, hi => by
    subst e
    have ha := h x a k1
    have := LR.drop h i k2 (by simpa using hi)
    rw [Nat.add_mul, Nat.one_mul, show i * n + n = a.length + i * n by omega, List.drop_length_add_append]
    simpa using this

mutual
def Rep (σ : Env) : AV → Value → Prop
  | .bool b, v => v = .bool b
  | .int k n, v => v = .int k n ∧ inK k n
  | .ptr id row st col, v => ∃ b, σ id = some b ∧ v = .pointer (some ⟨b, row * st + col, none⟩)
  | .nilp, v => v = .pointer none
  | .sl id off _ len cap, v => ((len : Int) ≤ maxK .i64 ∧ len ≤ cap) ∧ (cap : Int) ≤ maxK .i64 ∧ ∃ b, σ id = some b ∧ v = .slice (some ⟨b, off, none⟩) len cap
  | .val u, v => v = u
  | .agg cs, v => ∃ vs, RepL σ cs vs ∧ v = .agg vs.toArray
  | .tup cs, v => ∃ vs, RepL σ cs vs ∧ v = .tuple vs.toArray
  | .fn f a c, v => ∃ x y, RepL σ a x ∧ RepL σ c y ∧ v = .func f x.toArray y.toArray
  | .ro c xs, v => RepD σ.mem (.sl c) xs [v]
  | .rop c x col, v => ∃ b o vs, v = .pointer (some ⟨b, o + col, none⟩) ∧ Reads σ.mem b o vs ∧ RepD σ.mem c x vs
  | .own id, v => σ.sv id = some v ∧ ∃ a n cap, v = .slice a n cap
  | .mp id, v => ∃ b, σ id = some b ∧ v = .map (some b)
  | .yld id, v => ∃ b, σ id = some b ∧ v = .func (.yield b) #[] #[]
  | .ifc t x, v => ∃ u, Rep σ x u ∧ v = .iface t u
  | .top, _ => True
def RepL (σ : Env) : List AV → List Value → Prop
  | [], vs => vs = []
  | x :: xs, vs => ∃ v us, vs = v :: us ∧ Rep σ x v ∧ RepL σ xs us
end

structure Ext3 (σ τ : Env) : Prop where
  at_ : ∀ i b, σ i = some b → τ i = some b
  mem : ∀ b o v, σ.mem b o = some v → τ.mem b o = some v
  sv : ∀ i v, σ.sv i = some v → τ.sv i = some v
structure Ext (σ τ : Env) : Prop where
  at_ : ∀ i b, σ i = some b → τ i = some b
  mem : ∀ b o v, σ.mem b o = some v → τ.mem b o = some v
  sv : ∀ i v, σ.sv i = some v → τ.sv i = some v
  low : τ.low = σ.low
theorem Ext.refl (σ : Env) : Ext σ σ := ⟨fun _ _ h => h, fun _ _ _ h => h, fun _ _ h => h, rfl⟩
theorem Ext.trans {σ τ ρ : Env} (h : Ext σ τ) (k : Ext τ ρ) : Ext σ ρ := ⟨fun i b x => k.1 i b (h.1 i b x), fun b o v x => k.2 b o v (h.2 b o v x), fun i v x => k.3 i v (h.3 i v x), k.4.trans h.4⟩

mutual
theorem Rep.mono3 {σ τ : Env} (e : Ext3 σ τ) : ∀ (x : AV) (v : Value), Rep σ x v → Rep τ x v
  | .bool _, _, h => by simpa only [Rep] using h
  | .int _ _, _, h => by simpa only [Rep] using h
  | .ptr id row st col, v, h => by
    simp only [Rep] at h ⊢
    obtain ⟨b, h1, h2⟩ := h
    exact ⟨b, e.1 _ _ h1, h2⟩
  | .nilp, _, h => by simpa only [Rep] using h
  | .sl id off st len cap, v, h => by
    simp only [Rep] at h ⊢
    obtain ⟨h0, h0', b, h1, h2⟩ := h
    exact ⟨h0, h0', b, e.1 _ _ h1, h2⟩
  | .val _, _, h => by simpa only [Rep] using h
  | .agg cs, v, h => by
    simp only [Rep] at h ⊢
    obtain ⟨vs, h1, h2⟩ := h
    exact ⟨vs, RepL.mono3 e cs vs h1, h2⟩
  | .tup cs, v, h => by
    simp only [Rep] at h ⊢
    obtain ⟨vs, h1, h2⟩ := h
    exact ⟨vs, RepL.mono3 e cs vs h1, h2⟩
  | .fn f a c, v, h => by
    simp only [Rep] at h ⊢
    obtain ⟨x, y, h1, h2, h3⟩ := h
    exact ⟨x, y, RepL.mono3 e a x h1, RepL.mono3 e c y h2, h3⟩
  | .ro c xs, v, h => by simp only [Rep] at h ⊢; exact RepD.mono e.2 _ _ _ h
  | .rop c x col, v, h => by
    simp only [Rep] at h ⊢
    obtain ⟨b, o, vs, h1, h2, h3⟩ := h
    exact ⟨b, o, vs, h1, h2.mono e.2, RepD.mono e.2 _ _ _ h3⟩
  | .own id, v, h => by simp only [Rep] at h ⊢; exact ⟨e.3 _ _ h.1, h.2⟩
  | .mp id, v, h => by
    simp only [Rep] at h ⊢
    obtain ⟨b, h1, h2⟩ := h
    exact ⟨b, e.1 _ _ h1, h2⟩
  | .yld id, v, h => by
    simp only [Rep] at h ⊢
    obtain ⟨b, h1, h2⟩ := h
    exact ⟨b, e.1 _ _ h1, h2⟩
  | .ifc t x, v, h => by
    simp only [Rep] at h ⊢
    obtain ⟨u, h1, h2⟩ := h
    exact ⟨u, Rep.mono3 e x u h1, h2⟩
  | .top, _, _ => by simp only [Rep]
theorem RepL.mono3 {σ τ : Env} (e : Ext3 σ τ) : ∀ (xs : List AV) (vs : List Value), RepL σ xs vs → RepL τ xs vs
  | [], _, h => by simpa only [RepL] using h
  | x :: xs, vs, h => by
    simp only [RepL] at h ⊢
    obtain ⟨v, us, h1, h2, h3⟩ := h
    exact ⟨v, us, h1, Rep.mono3 e x v h2, RepL.mono3 e xs us h3⟩
end
theorem Rep.mono {σ τ : Env} (e : Ext σ τ) (x : AV) (v : Value) (h : Rep σ x v) : Rep τ x v := Rep.mono3 ⟨e.1, e.2, e.3⟩ x v h
theorem RepL.mono {σ τ : Env} (e : Ext σ τ) (xs : List AV) (vs : List Value) (h : RepL σ xs vs) : RepL τ xs vs := RepL.mono3 ⟨e.1, e.2, e.3⟩ xs vs h

theorem lenA_eq {β : Type} (l : List β) : lenA l = l.length := by induction l <;> simp [lenA, *]
theorem nth_eq {β : Type} (l : List β) (n : Nat) : nth l n = l[n]? := by
  induction l generalizing n with
  | nil => simp [nth]
  | cons x l ih => cases n <;> simp [nth, ih]
theorem takeA_eq {β : Type} (n : Nat) (l : List β) : takeA n l = l.take n := by
  induction n generalizing l with
  | zero => simp [takeA]
  | succ n ih => cases l <;> simp [takeA, ih]
theorem dropA_eq {β : Type} (n : Nat) (l : List β) : dropA n l = l.drop n := by
  induction n generalizing l with
  | zero => simp [dropA]
  | succ n ih => cases l <;> simp [dropA, ih]
theorem repL_iff {σ : Env} : ∀ {xs : List AV} {vs : List Value}, RepL σ xs vs ↔ xs.length = vs.length ∧ ∀ (i : Nat) (x : AV) (v : Value), xs[i]? = some x → vs[i]? = some v → Rep σ x v
  | [], vs => by
    simp only [RepL]
    constructor
    · rintro rfl; simp
    · rintro ⟨h, _⟩; exact List.eq_nil_of_length_eq_zero (by simpa using h.symm)
  | x :: xs, vs => by
    simp only [RepL]
    constructor
    · rintro ⟨v, us, rfl, h1, h2⟩
      obtain ⟨h3, h4⟩ := repL_iff.1 h2
      refine ⟨by simp [h3], fun i y u hy hu => ?_⟩
      cases i with
      | zero => simp at hy hu; subst hy; subst hu; exact h1
      | succ i => exact h4 i y u (by simpa using hy) (by simpa using hu)
    · rintro ⟨h1, h2⟩
      cases vs with
      | nil => simp at h1
      | cons v us =>
        refine ⟨v, us, rfl, h2 0 x v rfl rfl, repL_iff.2 ⟨by simpa using h1, fun i y u hy hu => h2 (i + 1) y u (by simpa using hy) (by simpa using hu)⟩⟩

theorem RepL.length {σ : Env} {xs : List AV} {vs : List Value} (h : RepL σ xs vs) : xs.length = vs.length := (repL_iff.1 h).1
theorem RepL.get {σ : Env} {xs : List AV} {vs : List Value} (h : RepL σ xs vs) {i : Nat} {x : AV} (hx : xs[i]? = some x) : ∃ v, vs[i]? = some v ∧ Rep σ x v := by
  obtain ⟨h1, h2⟩ := repL_iff.1 h
  have hi : i < vs.length := by rw [← h1]; exact (List.getElem?_eq_some_iff.1 hx).1
  exact ⟨vs[i], List.getElem?_eq_getElem hi, h2 i x _ hx (List.getElem?_eq_getElem hi)⟩
theorem RepL.take {σ : Env} {xs : List AV} {vs : List Value} (h : RepL σ xs vs) (n : Nat) : RepL σ (xs.take n) (vs.take n) := by
  obtain ⟨h1, h2⟩ := repL_iff.1 h
  refine repL_iff.2 ⟨by simp [h1], fun i x v hx hv => ?_⟩
  simp only [List.getElem?_take] at hx hv
  split at hx
  · rename_i hi; rw [if_pos hi] at hv; exact h2 i x v hx hv
  · simp at hx
theorem RepL.drop {σ : Env} {xs : List AV} {vs : List Value} (h : RepL σ xs vs) (n : Nat) : RepL σ (xs.drop n) (vs.drop n) := by
  obtain ⟨h1, h2⟩ := repL_iff.1 h
  refine repL_iff.2 ⟨by simp [h1], fun i x v hx hv => ?_⟩
  simp only [List.getElem?_drop] at hx hv
  exact h2 _ x v hx hv
theorem RepL.append {σ : Env} {xs ys : List AV} {vs us : List Value} (h : RepL σ xs vs) (k : RepL σ ys us) : RepL σ (xs ++ ys) (vs ++ us) := by
  obtain ⟨h1, h2⟩ := repL_iff.1 h
  obtain ⟨k1, k2⟩ := repL_iff.1 k
  refine repL_iff.2 ⟨by simp [h1, k1], fun i x v hx hv => ?_⟩
  rw [List.getElem?_append] at hx hv
  rw [h1] at hx
  split at hx
  · rename_i hi; rw [if_pos hi] at hv; exact h2 i x v hx hv
  · rename_i hi; rw [if_neg hi] at hv; exact k2 _ x v hx hv
theorem RepL.set {σ : Env} {xs : List AV} {vs : List Value} (h : RepL σ xs vs) {n : Nat} {y : AV} {u : Value} (hy : Rep σ y u) : RepL σ (xs.set n y) (vs.set n u) := by
  obtain ⟨h1, h2⟩ := repL_iff.1 h
  refine repL_iff.2 ⟨by simp [h1], fun i x v hx hv => ?_⟩
  rw [List.getElem?_set] at hx hv
  by_cases hni : n = i
  · subst hni
    by_cases hlt : n < xs.length
    · have hlt' : n < vs.length := h1 ▸ hlt
      simp [hlt] at hx; simp [hlt'] at hv; subst hx; subst hv; exact hy
    · simp [hlt] at hx
  · simp [hni] at hx hv; exact h2 i x v hx hv
theorem RepL.map {σ : Env} {β : Type} {f : β → AV} {g : β → Value} (h : ∀ b, Rep σ (f b) (g b)) : ∀ (l : List β), RepL σ (l.map f) (l.map g)
  | [] => by simp [RepL]
  | b :: l => by simp only [List.map_cons, RepL]; exact ⟨g b, l.map g, rfl, h b, RepL.map h l⟩

theorem inKB_spec {k : IntKind} {n : Int} : inKB k n = true ↔ inK k n := by simp [inKB, inK]
theorem wrap_in (k : IntKind) (n : Int) : inK k (k.wrap n) := by
  unfold inK IntKind.wrap
  cases k <;> simp [IntKind.bits, IntKind.signed, minK, maxK] <;> (try split) <;> omega
theorem rep_int {σ : Env} {k : IntKind} {n : Int} (h : inK k n) : Rep σ (.int k n) (.int k n) := by simp only [Rep]; exact ⟨trivial, h⟩
theorem rep_wrap {σ : Env} (k : IntKind) (n : Int) : Rep σ (.int k (k.wrap n)) (.int k (k.wrap n)) := rep_int (wrap_in k n)
theorem rep_bool {σ : Env} (b : Bool) : Rep σ (.bool b) (.bool b) := by simp only [Rep]
theorem rep_ofCell (σ : Env) (v : Value) : Rep σ (ofCell v) v := by
  cases v with
  | func f a c =>
    simp only [ofCell]
    cases h : a.isEmpty && c.isEmpty with
    | true =>
      simp at h
      simp only [cond_true, Rep]
      exact ⟨[], [], by simp [RepL], by simp [RepL], by simp [h.1, h.2]⟩
    | false => simp [Rep]
  | pointer a => cases a <;> simp [ofCell, Rep]
  | int k n =>
    simp only [ofCell]
    cases h : inKB k n with
    | true => exact rep_int (inKB_spec.1 h)
    | false => simp [Rep]
  | _ => simp [ofCell, Rep]
theorem repL_ofCell (σ : Env) (l : List Value) : RepL σ (l.map ofCell) l := by
  have := RepL.map (σ := σ) (f := ofCell) (g := id) (fun v => rep_ofCell σ v) l
  simpa using this
theorem rep_ofV (σ : Env) (v : Value) : Rep σ (ofV v) v := by
  cases v with
  | agg cs => simp only [ofV, Rep]; exact ⟨cs.toList, repL_ofCell σ _, by simp⟩
  | _ => simp only [ofV]; exact rep_ofCell σ _
theorem slD_one {m : Nat → Nat → Option Value} {c : TC} {xs : List (TCT c)} {v : Value} (h : RepD m (.sl c) xs [v]) : v.oneCell' = true := by
  simp only [RepD, List.cons.injEq, and_true] at h
  obtain ⟨v', rfl, h⟩ := h
  rcases h with ⟨rfl, _⟩ | ⟨_, _, _, _, _, rfl, _⟩ <;> rfl
theorem one_cell {σ : Env} {x : AV} {v : Value} (h : Rep σ x v) (ho : one x = true) : v.oneCell' = true := by
  cases x with
  | ro c xs => simp only [Rep] at h; exact slD_one h
  | rop c x col => simp only [Rep] at h; obtain ⟨_, _, _, rfl, _⟩ := h; rfl
  | own id => simp only [Rep] at h; obtain ⟨_, _, _, _, rfl⟩ := h; rfl
  | mp id => simp only [Rep] at h; obtain ⟨_, _, rfl⟩ := h; rfl
  | yld id => simp only [Rep] at h; obtain ⟨_, _, rfl⟩ := h; rfl
  | ifc t x => simp only [Rep] at h; obtain ⟨_, _, rfl⟩ := h; rfl
  | bool b => simp only [Rep] at h; subst h; rfl
  | int k n => simp only [Rep] at h; obtain ⟨rfl, _⟩ := h; rfl
  | ptr id row st col => simp only [Rep] at h; obtain ⟨_, _, rfl⟩ := h; rfl
  | nilp => simp only [Rep] at h; subst h; rfl
  | sl id off st len cap => simp only [Rep] at h; obtain ⟨_, _, _, _, rfl⟩ := h; rfl
  | val u => simp only [Rep] at h; subst h; exact ho
  | fn f a c => simp only [Rep] at h; obtain ⟨_, _, _, _, rfl⟩ := h; rfl
  | agg cs => simp [one] at ho
  | tup cs => simp [one] at ho
  | top => simp [one] at ho
theorem one_cells {v : Value} (h : v.oneCell' = true) : v.cells = #[v] := by cases v <;> first | rfl | (simp [Value.oneCell'] at h)
theorem rep_cells {σ : Env} {x : AV} {v : Value} {cs : List AV} (h : Rep σ x v) (hc : cellsA x = some cs) : RepL σ cs v.cells.toList := by
  have key : ∀ (y : AV), Rep σ y v → (bif one y then some [y] else none) = some cs → RepL σ cs v.cells.toList := by
    intro y hy hh
    cases ho : one y with
    | false => simp [ho] at hh
    | true =>
      simp [ho] at hh; subst hh
      rw [one_cells (one_cell hy ho)]
      simp only [RepL]
      exact ⟨v, [], by simp, hy, rfl⟩
  cases x with
  | agg xs =>
    simp [cellsA] at hc; subst hc
    simp only [Rep] at h
    obtain ⟨vs, h1, rfl⟩ := h
    simpa [Value.cells] using h1
  | _ => exact key _ h (by simpa [cellsA] using hc)

theorem setsA_rep {σ : Env} : ∀ (ys : List AV) (us : List Value) (off : Nat) (xs : List AV) (vs : List Value), RepL σ xs vs → RepL σ ys us → RepL σ (setsA xs off ys) (setsA vs off us)
  | [], us, off, xs, vs, h, k => by simp only [RepL] at k; subst k; simpa [setsA] using h
  | y :: ys, us, off, xs, vs, h, k => by
    simp only [RepL] at k
    obtain ⟨u, us', rfl, k1, k2⟩ := k
    simp only [setsA, setA_eq]
    exact setsA_rep ys us' (off + 1) _ _ (h.set k1) k2
theorem setsA_length {β : Type} : ∀ (ys : List β) (off : Nat) (xs : List β), (setsA xs off ys).length = xs.length
  | [], _, _ => rfl
  | y :: ys, off, xs => by simp [setsA, setA_eq, setsA_length ys]
theorem foldl_sets : ∀ (l : List Value) (off k : Nat) (cur : Array Value), (l.zipIdx k).foldl (fun cs (p : Value × Nat) => cs.setIfInBounds (off + p.2) p.1) cur = (setsA cur.toList (off + k) l).toArray
  | [], off, k, cur => by simp [setsA]
  | v :: l, off, k, cur => by
    simp only [List.zipIdx_cons, List.foldl_cons, setsA, setA_eq]
    rw [foldl_sets l off (k + 1)]
    simp [Nat.add_assoc]

theorem fill_rep {σ : Env} (place : Nat → Option (Nat × Nat)) : ∀ (parts : List (Nat × AV)) (qs : List (Nat × Value)) (xs : List AV) (vs : List Value) (r : List AV), RepL σ xs vs →
    (parts.length = qs.length ∧ ∀ (i : Nat) (p : Nat × AV) (q : Nat × Value), parts[i]? = some p → qs[i]? = some q → p.1 = q.1 ∧ Rep σ p.2 q.2) →
    fillA place xs parts = some r → ∃ us, Instr.fill place vs.toArray qs = some us.toArray ∧ RepL σ r us ∧ us.length = vs.length
  | [], qs, xs, vs, r, h, hp, hf => by
    have : qs = [] := List.eq_nil_of_length_eq_zero (by simpa using hp.1.symm)
    subst this
    simp [fillA] at hf; subst hf
    exact ⟨vs, by simp [Instr.fill], h, rfl⟩
  | (i, x) :: parts, qs, xs, vs, r, h, hp, hf => by
    cases qs with
    | nil => simp at hp
    | cons q qs =>
      obtain ⟨j, v⟩ := q
      have h0 := hp.2 0 (i, x) (j, v) rfl rfl
      simp only at h0
      obtain ⟨rfl, hx⟩ := h0
      simp only [fillA] at hf
      cases hpl : place i with
      | none => simp [hpl] at hf
      | some os =>
        obtain ⟨off, size⟩ := os
        cases hc : cellsA x with
        | none => simp [hpl, hc] at hf
        | some cs =>
          simp only [hpl, hc] at hf
          have hcr := rep_cells hx hc
          have hl := hcr.length
          cases hb : (Nat.beq (lenA cs) size && Nat.ble (off + lenA cs) (lenA xs)) with
          | false => simp [hb] at hf
          | true =>
            simp only [hb, cond_true] at hf
            simp only [Bool.and_eq_true, Nat.beq_eq, Nat.ble_eq, lenA_eq] at hb
            have hlen := h.length
            have ih := fill_rep place parts qs (setsA xs off cs) (setsA vs off v.cells.toList) r (setsA_rep _ _ _ _ _ h hcr)
              ⟨by simpa using hp.1, fun k p q hp' hq' => hp.2 (k + 1) p q (by simpa using hp') (by simpa using hq')⟩ hf
            obtain ⟨us, hu1, hu2, hu3⟩ := ih
            refine ⟨us, ?_, hu2, by rw [hu3, setsA_length]⟩
            simp only [Instr.fill, hpl]
            have hsz : v.cells.size = cs.length := by rw [hl]; simp
            have hvs : vs.toArray.size = xs.length := by simp [hlen]
            rw [if_neg (by simp only [hsz, hvs]; simp; exact ⟨hb.1, hb.2⟩)]
            have hfold : v.cells.zipIdx.foldl (fun cs (p : Value × Nat) => cs.setIfInBounds (off + p.2) p.1) vs.toArray = (setsA vs off v.cells.toList).toArray := by
              have := foldl_sets v.cells.toList off 0 vs.toArray
              simp only [Nat.add_zero] at this
              rw [← this, ← Array.foldl_toList]
              congr 1
              simp
            rw [hfold]
            exact hu1

theorem repL_app {σ : Env} : ∀ {xs ys : List AV} {vs : List Value}, RepL σ (xs ++ ys) vs → ∃ a b, vs = a ++ b ∧ RepL σ xs a ∧ RepL σ ys b
  | [], ys, vs, h => ⟨[], vs, rfl, by simp [RepL], h⟩
  | x :: xs, ys, vs, h => by
    simp only [List.cons_append, RepL] at h
    obtain ⟨v, us, rfl, h1, h2⟩ := h
    obtain ⟨a, b, rfl, h3, h4⟩ := repL_app h2
    exact ⟨v :: a, b, rfl, by simp only [RepL]; exact ⟨v, a, rfl, h1, h3⟩, h4⟩
mutual
theorem enc_rep {σ : Env} : ∀ (c : TC) (x : TCT c) (vs : List Value), RepD σ.mem c x vs → RepL σ (enc c x) vs
  | .b, x, vs, h => by simp only [RepD] at h; simp only [enc, RepL, Rep]; exact ⟨_, _, h, rfl, rfl⟩
  | .i k, n, vs, h => by simp only [RepD] at h; simp only [enc, RepL, Rep]; exact ⟨_, _, h.1, ⟨rfl, h.2⟩, rfl⟩
  | .s, x, vs, h => by simp only [RepD] at h; simp only [enc, RepL, Rep]; exact ⟨_, _, h, rfl, rfl⟩
  | .sl c, xs, vs, h => by
    have h0 := h
    simp only [RepD] at h
    obtain ⟨v, rfl, _⟩ := h
    simp only [enc, RepL, Rep]
    exact ⟨v, [], rfl, h0, rfl⟩
  | .st cs, x, vs, h => by simp only [RepD] at h; simp only [enc]; exact encs_rep cs x vs h
theorem encs_rep {σ : Env} : ∀ (cs : List TC) (x : TCTs cs) (vs : List Value), RepDs σ.mem cs x vs → RepL σ (encs cs x) vs
  | [], _, vs, h => by simpa only [RepDs, encs, RepL] using h
  | c :: cs, x, vs, h => by
    simp only [RepDs] at h
    obtain ⟨a, b, rfl, h1, h2⟩ := h
    show RepL σ (enc c x.1 ++ encs cs x.2) (a ++ b)
    exact (enc_rep c x.1 a h1).append (encs_rep cs x.2 b h2)
end
theorem castL_rep {c d : TC} {xs : List (TCT c)} {ys : List (TCT d)} (h : castL c d xs = some ys) {Q : (e : TC) → List (TCT e) → Prop} (k : Q c xs) : Q d ys := by
  unfold castL at h
  split at h
  · rename_i hb
    have hcd := TC.beq_eq c d hb
    subst hcd
    simp only [Option.some.injEq] at h
    subst h
    exact k
  · simp at h
mutual
theorem dec_rep {σ : Env} : ∀ (c : TC) (l : List AV) (vs : List Value) (x : TCT c) (r : List AV), dec c l = some (x, r) → RepL σ l vs → ∃ a b, vs = a ++ b ∧ RepD σ.mem c x a ∧ RepL σ r b
  | .b, l, vs, x, r, h, k => by
    simp only [dec] at h
    unfold decB at h
    split at h <;> simp at h
    obtain ⟨rfl, rfl⟩ := h
    simp only [RepL, Rep] at k
    obtain ⟨v, us, rfl, rfl, k2⟩ := k
    exact ⟨[_], us, rfl, by simp only [RepD], k2⟩
  | .i j, l, vs, x, r, h, k => by
    simp only [dec] at h
    unfold decI at h
    split at h <;> try (simp at h; done)
    rename_i j' n l'
    cases hj : decide (j' = j) with
    | false => simp [hj] at h
    | true =>
      simp only [hj, cond_true, Option.some.injEq, Prod.mk.injEq] at h
      obtain ⟨rfl, rfl⟩ := h
      have := of_decide_eq_true hj
      subst this
      simp only [RepL, Rep] at k
      obtain ⟨v, us, rfl, ⟨rfl, k1⟩, k2⟩ := k
      exact ⟨[_], us, rfl, by simp only [RepD]; exact ⟨trivial, k1⟩, k2⟩
  | .s, l, vs, x, r, h, k => by
    simp only [dec] at h
    unfold decS at h
    split at h <;> simp at h
    obtain ⟨rfl, rfl⟩ := h
    simp only [RepL, Rep] at k
    obtain ⟨v, us, rfl, rfl, k2⟩ := k
    exact ⟨[_], us, rfl, by simp only [RepD], k2⟩
  | .sl c, l, vs, x, r, h, k => by
    simp only [dec] at h
    unfold decSl at h
    split at h <;> try (simp at h; done)
    · rename_i d xs l'
      split at h
      · rename_i ys hys
        simp only [Option.some.injEq, Prod.mk.injEq] at h
        obtain ⟨rfl, rfl⟩ := h
        simp only [RepL, Rep] at k
        obtain ⟨v, us, rfl, k1, k2⟩ := k
        exact ⟨[v], us, rfl, castL_rep hys (Q := fun e zs => RepD σ.mem (.sl e) zs [v]) k1, k2⟩
      · simp at h
    · rename_i l'
      simp only [Option.some.injEq, Prod.mk.injEq] at h
      obtain ⟨rfl, rfl⟩ := h
      simp only [RepL, Rep] at k
      obtain ⟨v, us, rfl, rfl, k2⟩ := k
      exact ⟨[_], us, rfl, by simp only [RepD]; exact ⟨_, rfl, .inl ⟨rfl, trivial⟩⟩, k2⟩
  | .st cs, l, vs, x, r, h, k => by
    simp only [dec] at h
    obtain ⟨a, b, e, k1, k2⟩ := decs_rep cs l vs x r h k
    exact ⟨a, b, e, by simp only [RepD]; exact k1, k2⟩
theorem decs_rep {σ : Env} : ∀ (cs : List TC) (l : List AV) (vs : List Value) (x : TCTs cs) (r : List AV), decs cs l = some (x, r) → RepL σ l vs → ∃ a b, vs = a ++ b ∧ RepDs σ.mem cs x a ∧ RepL σ r b
  | [], l, vs, x, r, h, k => by
    simp only [decs, Option.some.injEq, Prod.mk.injEq, true_and] at h
    subst h
    exact ⟨[], vs, rfl, by simp only [RepDs], k⟩
  | c :: cs, l, vs, x, r, h, k => by
    simp only [decs] at h
    split at h
    · rename_i y l' hy
      split at h
      · rename_i z l'' hz
        simp only [Option.some.injEq, Prod.mk.injEq] at h
        obtain ⟨rfl, rfl⟩ := h
        obtain ⟨a, b, rfl, k1, k2⟩ := dec_rep c l vs y l' hy k
        obtain ⟨a', b', rfl, k3, k4⟩ := decs_rep cs l' b z _ hz k2
        exact ⟨a ++ a', b', by simp, by simp only [RepDs]; exact ⟨a, a', rfl, k1, k3⟩, k4⟩
      · simp at h
    · simp at h
end
theorem dec_all {σ : Env} {c : TC} {l : List AV} {vs : List Value} {x : TCT c} (h : dec c l = some (x, [])) (k : RepL σ l vs) : RepD σ.mem c x vs := by
  obtain ⟨a, b, rfl, k1, k2⟩ := dec_rep c l vs x [] h k
  simp only [RepL] at k2
  subst k2
  simpa using k1
theorem decRows_rep {σ : Env} {c : TC} : ∀ (n : Nat) (l : List AV) (vs : List Value) (xs : List (TCT c)), decRows c n l = some xs → RepL σ l vs → l.length = n * c.size → LR (RepD σ.mem c) xs vs ∧ xs.length = n
  | 0, l, vs, xs, h, k, hl => by
    simp only [decRows, Option.some.injEq] at h
    subst h
    have hl0 : l = [] := List.eq_nil_of_length_eq_zero (by simpa using hl)
    subst hl0
    simp only [RepL] at k
    exact ⟨k, rfl⟩
  | n + 1, l, vs, xs, h, k, hl => by
    simp only [decRows] at h
    split at h
    · rename_i x l' hx
      split at h
      · rename_i ys hys
        simp only [Option.some.injEq] at h
        subst h
        obtain ⟨a, b, rfl, k1, k2⟩ := dec_rep c l vs x l' hx k
        have e1 := RepD.len c x a k1
        have e2 := k.length
        have e3 := k2.length
        have hl' : l'.length = n * c.size := by
          simp only [List.length_append, Nat.add_mul, Nat.one_mul] at e2 hl
          omega
        obtain ⟨k3, k4⟩ := decRows_rep n l' b ys hys k2 hl'
        exact ⟨⟨a, b, rfl, k1, k3⟩, by simp [k4]⟩
      · simp at h
    · simp at h
theorem encA_rep {σ : Env} (c : TC) (x : TCT c) (v : Value) (h : RepD σ.mem c x v.cells.toList) (hc : (∃ cs, c = .st cs) → ∃ vs : Array Value, v = .agg vs) (hc' : (∀ cs, c ≠ .st cs) → v.oneCell' = true) : Rep σ (encA c x) v := by
  cases c with
  | st cs =>
    obtain ⟨vs, rfl⟩ := hc ⟨cs, rfl⟩
    simp only [RepD] at h
    simp only [encA, Rep]
    exact ⟨vs.toList, encs_rep cs x _ h, by simp⟩
  | _ =>
    rw [one_cells (hc' (by simp))] at h
    have := enc_rep _ x _ h
    simp only [enc, RepL, List.cons.injEq, List.toList_toArray] at this
    obtain ⟨v', us, ⟨rfl, _⟩, hr, _⟩ := this
    exact hr
theorem decA_rep {σ : Env} {c : TC} {x : AV} {v : Value} {y : TCT c} (h : decA c x = some y) (k : Rep σ x v) : RepD σ.mem c y v.cells.toList ∧ ((∃ cs, c = .st cs) → ∃ vs : Array Value, v = .agg vs) ∧ ((∀ cs, c ≠ .st cs) → v.oneCell' = true) := by
  cases c with
  | st cs =>
    simp only [decA] at h
    unfold decAg at h
    split at h <;> try (simp at h; done)
    · rename_i l
      split at h
      · rename_i z hz
        simp only [Option.some.injEq] at h
        subst h
        simp only [Rep] at k
        obtain ⟨vs, k1, rfl⟩ := k
        obtain ⟨a, b, rfl, k2, k3⟩ := decs_rep _ l vs z [] hz k1
        simp only [RepL] at k3
        subst k3
        refine ⟨?_, fun _ => ⟨_, rfl⟩, fun h => absurd rfl (h _)⟩
        simp only [RepD]
        simpa [Value.cells] using k2
      · simp at h
  | _ =>
    simp only [decA, dec1] at h
    split at h <;> try (simp at h; done)
    rename_i z hz
    simp only [Option.some.injEq] at h
    subst h
    have hk : RepL σ [x] [v] := by simp only [RepL]; exact ⟨v, [], rfl, k, rfl⟩
    have hd := dec_all hz hk
    have h1 : v.oneCell' = true := by
      simp only [RepD, List.cons.injEq, and_true] at hd
      first
        | (rw [hd]; rfl)
        | (rw [hd.1]; rfl)
        | (obtain ⟨v', rfl, hd⟩ := hd
           rcases hd with ⟨rfl, _⟩ | ⟨_, _, _, _, _, rfl, _⟩ <;> rfl)
    refine ⟨?_, (by rintro ⟨cs, h⟩; cases h), fun _ => h1⟩
    rw [one_cells h1]
    exact hd

section
variable {P : Program}
theorem run_size {t : TypeId} {s : Nat} (h : sizeT P t = some s) (w : World) : (sizeOf t).run P w = .ok s w := by
  unfold sizeT at h
  cases hi : P.info? t with
  | none => simp [hi] at h
  | some i => simp [hi] at h; simp [sizeOf, typeInfo, hi, h]
theorem run_agg {t : TypeId} {b : Bool} (h : isAggT P t = some b) (w : World) : (isAgg t).run P w = .ok b w := by
  unfold isAggT at h
  unfold isAgg
  rw [Sem.run_bind]
  cases hu : P.underlying t with
  | none => simp [hu] at h
  | some d =>
    rw [run_underlying hu w]
    cases d <;> simp [hu] at h <;> subst h <;> rfl
theorem run_zero {σ : Env} {t : TypeId} {z : List AV} (h : zeroT P t = some z) (w : World) : ∃ v, (zeroValue t).run P w = .ok v w ∧ RepL σ z v.cells.toList := by
  unfold zeroT at h
  cases hi : P.info? t with
  | none => simp [hi] at h
  | some i =>
    cases hz : i.zero with
    | none => simp [hi, hz] at h
    | some v =>
      simp [hi, hz] at h; subst h
      exact ⟨v, by simp [zeroValue, typeInfo, hi, hz], repL_ofCell σ _⟩
theorem run_part {σ : Env} {t : TypeId} {cs : List AV} {vs : List Value} {off : Nat} {x : AV} (h : RepL σ cs vs) (hp : partA P t cs off = some x) (w : World) : ∃ v, (part t vs.toArray off).run P w = .ok v w ∧ Rep σ x v := by
  unfold partA at hp
  cases ha : isAggT P t with
  | none => simp [ha] at hp
  | some b =>
    unfold part
    rw [Sem.run_bind, run_agg ha w]
    cases b with
    | true =>
      cases hs : sizeT P t with
      | none => simp [ha, hs] at hp
      | some s =>
        simp only [ha, hs] at hp
        cases hb : Nat.ble (off + s) (lenA cs) with
        | false => simp [hb] at hp
        | true =>
          simp [hb, takeA_eq, dropA_eq] at hp
          subst hp
          simp only [Result.andThen_ok, if_true, Sem.run_bind, run_size hs w, Sem.run_pure]
          refine ⟨_, rfl, ?_⟩
          simp only [Rep]
          refine ⟨(vs.drop off).take s, (h.drop off).take s, ?_⟩
          congr 1
          simp [List.drop_take]
    | false =>
      simp only [ha, nth_eq] at hp
      obtain ⟨v, hv, hr⟩ := h.get hp
      refine ⟨v, ?_, hr⟩
      simp [hv]
end
end V
end Go.Proofs.Ytmmhbianajpdgaa
