/- Functions that turn memory, by summary: what they find is cut out of their caller's memory and numbered anew; all else stays as it is. -/
import Derived.Test.YtgchccljmjmibaaVC
namespace Go.Proofs.Ytgchccljmjmibaa
open Go.RowKit
namespace V

/-- where a number stands in a list -/
def idxOf : List Nat → Nat → Option Nat
  | [], _ => none
  | j :: l, i => bif Nat.beq j i then some 0 else match idxOf l i with
    | some k => some (k + 1)
    | none => none
mutual
/-- values with other numbers -/
def renA (f : Nat → Option Nat) : AV → AV
  | .bool b => .bool b
  | .int k n => .int k n
  | .ptr id row st col => match f id with
    | some k => .ptr k row st col
    | none => .top
  | .nilp => .nilp
  | .sl id off st len cap => match f id with
    | some k => .sl k off st len cap
    | none => .top
  | .val v => .val v
  | .agg cs => .agg (renL f cs)
  | .tup cs => .tup (renL f cs)
  | .fn g a c => .fn g (renL f a) (renL f c)
  | .ro c xs => .ro c xs
  | .rop c x col => .rop c x col
  | .own id => match f id with
    | some k => .own k
    | none => .top
  | .mp id => match f id with
    | some k => .mp k
    | none => .top
  | .yld id => match f id with
    | some k => .yld k
    | none => .top
  | .stp id => match f id with
    | some k => .stp k
    | none => .top
  | .win id row st n => match f id with
    | some k => .win k row st n
    | none => .top
  | .ifc t x => .ifc t (renA f x)
  | .top => .top
def renL (f : Nat → Option Nat) : List AV → List AV
  | [] => []
  | x :: xs => renA f x :: renL f xs
end
def renOb (f : Nat → Option Nat) : Ob → Option Ob
  | .blk b => some (.blk ⟨b.ty, renL f b.cs⟩)
  | .arr A => some (.arr A)
  | .mp M => some (.mp ⟨M.kc, M.vc, M.get, []⟩)
  | _ => none
/-- what is cut out -/
def cutHp (ids : List Nat) (hp : Heap) : Heap := fun k => match nth ids k with
  | some id => match hp id with
    | some o => renOb (idxOf ids) o
    | none => none
  | none => none
def unren (ids : List Nat) (nx k : Nat) : Nat := match nth ids k with
  | some id => id
  | none => nx + (k - lenA ids)
def posOf (ids : List Nat) (nx i : Nat) : Option Nat := match idxOf ids i with
  | some k => some k
  | none => bif Nat.ble nx i then some (lenA ids + (i - nx)) else none
/-- and put back, with what is new behind all -/
def backHp (ids : List Nat) (nx : Nat) (hp hpc : Heap) : Heap := fun i => match posOf ids nx i with
  | some k => match hpc k with
    | some o => renOb (fun k => some (unren ids nx k)) o
    | none => none
  | none => hp i
def nodupB : List Nat → Bool
  | [] => true
  | i :: l => (l.all fun j => !(Nat.beq j i)) && nodupB l

/-- values keep their meaning under other numbers -/
structure RenRel (f : Nat → Option Nat) (σ τ : Env) : Prop where
  at_ : ∀ i k b, f i = some k → σ i = some b → τ k = some b
  sv : ∀ i k v, f i = some k → σ.sv i = some v → τ.sv k = some v
  mem : ∀ b o v, σ.mem b o = some v → τ.mem b o = some v
mutual
theorem renA_rep {f : Nat → Option Nat} {σ τ : Env} (h : RenRel f σ τ) : ∀ (x : AV) (v : Value), Rep σ x v → Rep τ (renA f x) v
  | .bool _, _, k => by simpa only [renA, Rep] using k
  | .int _ _, _, k => by simpa only [renA, Rep] using k
  | .ptr id row st col, v, k => by
    simp only [Rep] at k
    obtain ⟨b, k1, k2⟩ := k
    simp only [renA]
    split
    · rename_i j hj; simp only [Rep]; exact ⟨b, h.at_ _ _ _ hj k1, k2⟩
    · simp only [Rep]
  | .nilp, _, k => by simpa only [renA, Rep] using k
  | .sl id off st len cap, v, k => by
    simp only [Rep] at k
    obtain ⟨k1, k2, b, k3, k4⟩ := k
    simp only [renA]
    split
    · rename_i j hj; simp only [Rep]; exact ⟨k1, k2, b, h.at_ _ _ _ hj k3, k4⟩
    · simp only [Rep]
  | .val _, _, k => by simpa only [renA, Rep] using k
  | .agg cs, v, k => by
    simp only [Rep] at k
    obtain ⟨vs, k1, k2⟩ := k
    simp only [renA, Rep]
    exact ⟨vs, renL_rep h cs vs k1, k2⟩
  | .tup cs, v, k => by
    simp only [Rep] at k
    obtain ⟨vs, k1, k2⟩ := k
    simp only [renA, Rep]
    exact ⟨vs, renL_rep h cs vs k1, k2⟩
  | .fn g a c, v, k => by
    simp only [Rep] at k
    obtain ⟨x, y, k1, k2, k3⟩ := k
    simp only [renA, Rep]
    exact ⟨x, y, renL_rep h a x k1, renL_rep h c y k2, k3⟩
  | .ro c xs, v, k => by
    simp only [Rep] at k
    simp only [renA, Rep]
    exact RepD.mono h.mem (.sl c) xs [v] k
  | .rop c x col, v, k => by
    simp only [Rep] at k
    obtain ⟨b, o, vs, k1, k2, k3⟩ := k
    simp only [renA, Rep]
    exact ⟨b, o, vs, k1, k2.mono h.mem, RepD.mono h.mem c x vs k3⟩
  | .own id, v, k => by
    simp only [Rep] at k
    simp only [renA]
    split
    · rename_i j hj; simp only [Rep]; exact ⟨h.sv _ _ _ hj k.1, k.2⟩
    · simp only [Rep]
  | .mp id, v, k => by
    simp only [Rep] at k
    obtain ⟨b, k1, k2⟩ := k
    simp only [renA]
    split
    · rename_i j hj; simp only [Rep]; exact ⟨b, h.at_ _ _ _ hj k1, k2⟩
    · simp only [Rep]
  | .yld id, v, k => by
    simp only [Rep] at k
    obtain ⟨b, k1, k2⟩ := k
    simp only [renA]
    split
    · rename_i j hj; simp only [Rep]; exact ⟨b, h.at_ _ _ _ hj k1, k2⟩
    · simp only [Rep]
  | .stp id, v, k => by
    simp only [Rep] at k
    simp only [renA]
    split
    · rename_i j hj; simp only [Rep]; exact ⟨h.sv _ _ _ hj k.1, k.2⟩
    · simp only [Rep]
  | .win id row st n, v, k => by
    simp only [Rep] at k
    obtain ⟨ad, len, c, ap, cap, k1, k2⟩ := k
    simp only [renA]
    split
    · rename_i j hj; simp only [Rep]; exact ⟨ad, len, c, ap, cap, h.sv _ _ _ hj k1, k2⟩
    · simp only [Rep]
  | .ifc t x, v, k => by
    simp only [Rep] at k
    obtain ⟨u, k1, k2⟩ := k
    simp only [renA, Rep]
    exact ⟨u, renA_rep h x u k1, k2⟩
  | .top, _, _ => by simp only [renA, Rep]
theorem renL_rep {f : Nat → Option Nat} {σ τ : Env} (h : RenRel f σ τ) : ∀ (xs : List AV) (vs : List Value), RepL σ xs vs → RepL τ (renL f xs) vs
  | [], _, k => by simpa only [renL, RepL] using k
  | x :: xs, vs, k => by
    simp only [RepL] at k
    obtain ⟨v, us, k1, k2, k3⟩ := k
    simp only [renL, RepL]
    exact ⟨v, us, k1, renA_rep h x v k2, renL_rep h xs us k3⟩
end
theorem renOb_rel {B : Nat} {f : Nat → Option Nat} {σ τ : Env} {w : World} {i k : Nat} {o o' : Ob} (h : RenRel f σ τ) (hat : τ k = σ i) (hsv : ∀ v, σ.sv i = some v → τ.sv k = some v) (ho : renOb f o = some o') (hr : ObRel B σ w i o) : ObRel B τ w k o' := by
  cases o with
  | blk b =>
    simp only [renOb, Option.some.injEq] at ho
    subst ho
    obtain ⟨n, vs, h1, h2, h3, h4⟩ := hr
    exact ⟨n, vs, hat.trans h1, h2, renL_rep h _ _ h3, h4⟩
  | arr A =>
    simp only [renOb, Option.some.injEq] at ho
    subst ho
    obtain ⟨v, us, h1, h2, h3, h4, h5⟩ := hr
    exact ⟨v, us, hsv _ h1, h2, LR.mono (fun x vs => RepD.mono h.mem A.c x vs) h3, h4, fun n => by rw [hat]; exact h5 n⟩
  | mp M =>
    simp only [renOb, Option.some.injEq] at ho
    subst ho
    obtain ⟨n, es, clock, h1, h2, h3, h4⟩ := hr
    obtain ⟨kc, vc, get, ents⟩ := M
    exact ⟨n, es, clock, hat.trans h1, h2, (h3.mono h.mem (fun _ _ h => h)).drop, h4⟩
  | _ => simp [renOb] at ho

theorem idxOf_some {ids : List Nat} {i k : Nat} (h : idxOf ids i = some k) : ids[k]? = some i := by
  induction ids generalizing k with
  | nil => simp [idxOf] at h
  | cons j l ih =>
    simp only [idxOf] at h
    cases hb : Nat.beq j i with
    | true => rw [hb, cond_true] at h; cases h; simp [Nat.eq_of_beq_eq_true hb]
    | false =>
      rw [hb, cond_false] at h
      split at h
      · rename_i k' hk'
        cases h
        simpa using ih hk'
      · cases h
theorem idxOf_none {ids : List Nat} {i : Nat} (h : idxOf ids i = none) : i ∉ ids := by
  induction ids with
  | nil => simp
  | cons j l ih =>
    simp only [idxOf] at h
    cases hb : Nat.beq j i with
    | true => rw [hb, cond_true] at h; cases h
    | false =>
      rw [hb, cond_false] at h
      split at h
      · cases h
      · rename_i hk
        intro hm
        rcases List.mem_cons.1 hm with rfl | hm
        · simp at hb
        · exact ih hk hm
theorem nodupB_spec {ids : List Nat} (h : nodupB ids = true) : ids.Nodup := by
  induction ids with
  | nil => simp
  | cons i l ih =>
    simp only [nodupB, Bool.and_eq_true, List.all_eq_true, Bool.not_eq_true'] at h
    rw [List.nodup_cons]
    refine ⟨fun hm => ?_, ih h.2⟩
    have := h.1 i hm
    simp at this
theorem nodup_at {ids : List Nat} (h : ids.Nodup) {j k i : Nat} (hj : ids[j]? = some i) (hk : ids[k]? = some i) : j = k := by
  obtain ⟨h1, h2⟩ := List.getElem?_eq_some_iff.1 hj
  obtain ⟨h3, h4⟩ := List.getElem?_eq_some_iff.1 hk
  have hp := List.pairwise_iff_getElem.1 h
  rcases Nat.lt_trichotomy j k with x | x | x
  · exact absurd (h2.trans h4.symm) (hp j k h1 h3 x)
  · exact x
  · exact absurd (h4.trans h2.symm) (hp k j h3 h1 x)
theorem idxOf_at {ids : List Nat} (h : ids.Nodup) {k i : Nat} (hk : ids[k]? = some i) : idxOf ids i = some k := by
  cases hc : idxOf ids i with
  | none => exact absurd (List.mem_of_getElem? hk) (idxOf_none hc)
  | some j => rw [nodup_at h (idxOf_some hc) hk]

/-- the environment of what is cut out -/
noncomputable def cutEnv (ids : List Nat) (σ : Env) (hp : Heap) (w : World) : Env where
  at_ k := match ids[k]? with
    | some id => σ id
    | none => none
  sv k := match ids[k]? with
    | some id => σ.sv id
    | none => none
  mem := σ.mem
  low := σ.low
  kp n := open Classical in if ∃ i, i ∉ ids ∧ hp i ≠ none ∧ σ i = some n then w.heap[n]? else σ.kp n
  sz := w.heap.size
  dd k := match ids[k]? with
    | some id => σ.dd id
    | none => false
  ds k := match ids[k]? with
    | some id => σ.ds id
    | none => false
theorem cutEnv_at {ids : List Nat} {σ : Env} {hp : Heap} {w : World} {k id : Nat} (h : ids[k]? = some id) : cutEnv ids σ hp w k = σ id := by
  show (match ids[k]? with | some id => σ id | none => none) = _; rw [h]
theorem cutEnv_sv {ids : List Nat} {σ : Env} {hp : Heap} {w : World} {k id : Nat} (h : ids[k]? = some id) : (cutEnv ids σ hp w).sv k = σ.sv id := by
  show (match ids[k]? with | some id => σ.sv id | none => none) = _; rw [h]
theorem cutEnv_none {ids : List Nat} {σ : Env} {hp : Heap} {w : World} {k : Nat} (h : ids.length ≤ k) : cutEnv ids σ hp w k = none ∧ (cutEnv ids σ hp w).sv k = none := by
  have : ids[k]? = none := List.getElem?_eq_none h
  constructor
  · show (match ids[k]? with | some id => σ id | none => none) = _; rw [this]
  · show (match ids[k]? with | some id => σ.sv id | none => none) = _; rw [this]
theorem cutEnv_free {ids : List Nat} {σ : Env} {hp : Heap} {w : World} {k : Nat} (h : ids.length ≤ k) : Free (cutEnv ids σ hp w) k := by
  have : ids[k]? = none := List.getElem?_eq_none h
  refine ⟨(cutEnv_none h).1, (cutEnv_none h).2, ?_, ?_⟩
  · show (match ids[k]? with | some id => σ.dd id | none => false) = _; rw [this]
  · show (match ids[k]? with | some id => σ.ds id | none => false) = _; rw [this]
theorem cutEnv_ren {ids : List Nat} (σ : Env) (hp : Heap) (w : World) : RenRel (idxOf ids) σ (cutEnv ids σ hp w) :=
  ⟨fun _ _ _ h k => (cutEnv_at (idxOf_some h)).trans k, fun _ _ _ h k => (cutEnv_sv (idxOf_some h)).trans k, fun _ _ _ h => h⟩
theorem cutHp_some {ids : List Nat} {hp : Heap} {k : Nat} {o : Ob} (h : cutHp ids hp k = some o) : ∃ id o', ids[k]? = some id ∧ hp id = some o' ∧ renOb (idxOf ids) o' = some o := by
  unfold cutHp at h
  split at h
  · rename_i id hid
    split at h
    · rename_i o' ho'
      rw [nth_eq] at hid
      exact ⟨id, o', hid, ho', h⟩
    · cases h
  · cases h
theorem HRel.cut {B : Nat} {σ : Env} {hp : Heap} {nx : Nat} {w : World} (h : HRel B σ hp nx w) {ids : List Nat} (hn : ids.Nodup) : HRel B (cutEnv ids σ hp w) (cutHp ids hp) ids.length w := by
  have live : ∀ k, cutHp ids hp k ≠ none → ∃ id, ids[k]? = some id ∧ hp id ≠ none := by
    intro k hk
    cases ho : cutHp ids hp k with
    | none => exact absurd ho hk
    | some o =>
      obtain ⟨id, o', h1, h2, _⟩ := cutHp_some ho
      exact ⟨id, h1, by rw [h2]; simp⟩
  have hin : ∀ k n, cutHp ids hp k ≠ none → cutEnv ids σ hp w k = some n → ∃ id, ids[k]? = some id ∧ hp id ≠ none ∧ σ id = some n := by
    intro k n hk hkn
    obtain ⟨id, h1, h2⟩ := live k hk
    rw [cutEnv_at h1] at hkn
    exact ⟨id, h1, h2, hkn⟩
  refine ⟨fun k o ho => ?_, fun i j n hi hj h1 h2 => ?_, fun k hk => ?_, fun k n hk => ?_, h.mem, fun k n hk hkn o => ?_, h.low, ⟨Nat.le_refl _, fun n o hno => ?_, fun k n hk hkn => ?_, fun n o v hv => ?_⟩, ⟨fun k hk => ?_, fun k hk => ?_, fun k hk => ?_⟩⟩
  · obtain ⟨id, o', h1, h2, h3⟩ := cutHp_some ho
    exact renOb_rel (cutEnv_ren σ hp w) (cutEnv_at h1) (fun v hv => (cutEnv_sv h1).trans hv) h3 (h.ob id o' h2)
  · obtain ⟨a, a1, a2, a3⟩ := hin i n hi h1
    obtain ⟨b, b1, b2, b3⟩ := hin j n hj h2
    have := h.inj a b n a2 b2 a3 b3
    subst this
    exact nodup_at hn a1 b1
  · refine ⟨(cutEnv_none hk).1, (cutEnv_none hk).2, ?_⟩
    cases ho : cutHp ids hp k with
    | none => rfl
    | some o =>
      obtain ⟨id, o', h1, _⟩ := cutHp_some ho
      rw [List.getElem?_eq_none hk] at h1; cases h1
  · cases hc : ids[k]? with
    | none => rw [(cutEnv_none (List.getElem?_eq_none_iff.1 hc)).1] at hk; cases hk
    | some id => rw [cutEnv_at hc] at hk; exact h.bound id n hk
  · obtain ⟨id, h1, h2, h3⟩ := hin k n hk hkn
    exact h.sep id n h2 h3 o
  · simp only [cutEnv] at hno
    split at hno
    · exact hno
    · exact h.kp.ok n o hno
  · obtain ⟨id, h1, h2, h3⟩ := hin k n hk hkn
    simp only [cutEnv]
    split
    · rename_i hex
      obtain ⟨i, i1, i2, i3⟩ := hex
      have := h.inj i id n i2 h2 i3 h3
      subst this
      exact absurd (List.mem_of_getElem? h1) i1
    · exact h.kp.sep id n h2 h3
  · simp only [cutEnv]
    split
    · rename_i hex
      obtain ⟨i, i1, i2, i3⟩ := hex
      rw [show (cutEnv ids σ hp w).mem n o = σ.mem n o from rfl] at hv
      rw [h.sep i n i2 i3 o] at hv; cases hv
    · exact h.kp.mem n o v hv
  · have e1 : (cutEnv ids σ hp w).dd k = match ids[k]? with | some id => σ.dd id | none => false := rfl
    have e2 : (cutEnv ids σ hp w).ds k = match ids[k]? with | some id => σ.ds id | none => false := rfl
    rw [e1, e2] at hk
    cases hc : ids[k]? with
    | none => rw [hc] at hk; simp at hk
    | some id => exact (List.getElem?_eq_some_iff.1 hc).1
  · have e1 : (cutEnv ids σ hp w).dd k = match ids[k]? with | some id => σ.dd id | none => false := rfl
    rw [e1] at hk
    cases hc : ids[k]? with
    | none => rw [hc] at hk; simp at hk
    | some id => rw [hc] at hk; exact (cutEnv_at hc).trans (h.rs.at_ id hk)
  · have e1 : (cutEnv ids σ hp w).ds k = match ids[k]? with | some id => σ.ds id | none => false := rfl
    rw [e1] at hk
    cases hc : ids[k]? with
    | none => rw [hc] at hk; simp at hk
    | some id => rw [hc] at hk; exact (cutEnv_sv hc).trans (h.rs.sv id hk)

/-- the caller's environment again -/
def backEnv (ids : List Nat) (nx : Nat) (σ τ : Env) : Env where
  at_ i := match posOf ids nx i with
    | some k => τ k
    | none => σ i
  sv i := match posOf ids nx i with
    | some k => τ.sv k
    | none => σ.sv i
  mem := τ.mem
  low := σ.low
  kp := σ.kp
  sz := σ.sz
  dd := σ.dd
  ds := σ.ds
theorem backEnv_some {ids : List Nat} {nx : Nat} {σ τ : Env} {i k : Nat} (h : posOf ids nx i = some k) : backEnv ids nx σ τ i = τ k ∧ (backEnv ids nx σ τ).sv i = τ.sv k := by
  constructor
  · show (match posOf ids nx i with | some k => τ k | none => σ i) = _; rw [h]
  · show (match posOf ids nx i with | some k => τ.sv k | none => σ.sv i) = _; rw [h]
theorem backEnv_none {ids : List Nat} {nx : Nat} {σ τ : Env} {i : Nat} (h : posOf ids nx i = none) : backEnv ids nx σ τ i = σ i ∧ (backEnv ids nx σ τ).sv i = σ.sv i := by
  constructor
  · show (match posOf ids nx i with | some k => τ k | none => σ i) = _; rw [h]
  · show (match posOf ids nx i with | some k => τ.sv k | none => σ.sv i) = _; rw [h]
theorem posOf_none {ids : List Nat} {nx i : Nat} (h : posOf ids nx i = none) : i ∉ ids ∧ i < nx := by
  unfold posOf at h
  split at h
  · cases h
  · rename_i hi
    refine ⟨idxOf_none hi, ?_⟩
    cases hb : Nat.ble nx i with
    | true => rw [hb, cond_true] at h; cases h
    | false => rcases Nat.lt_or_ge i nx with k | k
               · exact k
               · rw [Nat.ble_eq_true_of_le k] at hb; cases hb
theorem posOf_some {ids : List Nat} {nx i k : Nat} (h : posOf ids nx i = some k) : ids[k]? = some i ∨ (nx ≤ i ∧ k = ids.length + (i - nx)) := by
  unfold posOf at h
  split at h
  · rename_i j hj; cases h; exact .inl (idxOf_some hj)
  · cases hb : Nat.ble nx i with
    | true => rw [hb, cond_true] at h; cases h; exact .inr ⟨Nat.le_of_ble_eq_true hb, by rw [lenA_eq]⟩
    | false => rw [hb, cond_false] at h; cases h
theorem posOf_unren {ids : List Nat} {nx : Nat} (hn : ids.Nodup) (hlt : ∀ id ∈ ids, id < nx) (k : Nat) : posOf ids nx (unren ids nx k) = some k := by
  unfold unren
  rw [nth_eq]
  cases hc : ids[k]? with
  | some id => simp only [posOf, idxOf_at hn hc]
  | none =>
    simp only [posOf, lenA_eq]
    have hk := List.getElem?_eq_none_iff.1 hc
    have hno : idxOf ids (nx + (k - ids.length)) = none := by
      cases hx : idxOf ids (nx + (k - ids.length)) with
      | none => rfl
      | some j =>
        have := hlt _ (List.mem_of_getElem? (idxOf_some hx))
        omega
    rw [hno]
    simp only [Nat.ble_eq_true_of_le (Nat.le_add_right nx (k - ids.length)), cond_true, Option.some.injEq]
    omega
theorem posOf_inj {ids : List Nat} {nx : Nat} {i j k : Nat} (_hlt : ∀ id ∈ ids, id < nx) (h1 : posOf ids nx i = some k) (h2 : posOf ids nx j = some k) : i = j := by
  rcases posOf_some h1 with a | ⟨a, a'⟩ <;> rcases posOf_some h2 with b | ⟨b, b'⟩
  · rw [a] at b; exact Option.some.inj b
  · have := (List.getElem?_eq_some_iff.1 a).1; omega
  · have := (List.getElem?_eq_some_iff.1 b).1; omega
  · omega
theorem backEnv_ren {ids : List Nat} {nx : Nat} (hn : ids.Nodup) (hlt : ∀ id ∈ ids, id < nx) (σ τ : Env) : RenRel (fun k => some (unren ids nx k)) τ (backEnv ids nx σ τ) := by
  refine ⟨fun k i b h hk => ?_, fun k i v h hk => ?_, fun _ _ _ h => h⟩
  · cases h; exact (backEnv_some (posOf_unren hn hlt k)).1.trans hk
  · cases h; exact (backEnv_some (posOf_unren hn hlt k)).2.trans hk
theorem HRel.back {B : Nat} {σ τ : Env} {hp hpc : Heap} {nx nxc : Nat} {w w' : World} (h : HRel B σ hp nx w) {ids : List Nat} (hn : ids.Nodup) (hlt : ∀ id ∈ ids, id < nx) (hx : Ext (cutEnv ids σ hp w) τ) (hc : HRel B τ hpc nxc w') (hnx : ids.length ≤ nxc) :
    Ext σ (backEnv ids nx σ τ) ∧ HRel B (backEnv ids nx σ τ) (backHp ids nx hp hpc) (nx + (nxc - ids.length)) w' := by
  have hext : Ext σ (backEnv ids nx σ τ) := by
    refine ⟨fun i b hi => ?_, fun b o v hv => hx.2 b o v hv, fun i v hi => ?_, rfl, rfl, rfl, rfl, rfl⟩
    · cases hp' : posOf ids nx i with
      | none => exact (backEnv_none hp').1.trans hi
      | some k =>
        rcases posOf_some hp' with a | ⟨a, _⟩
        · rw [(backEnv_some hp').1]
          exact hx.1 k b ((cutEnv_at a).trans hi)
        · rw [(h.fresh i a).1] at hi; cases hi
    · cases hp' : posOf ids nx i with
      | none => exact (backEnv_none hp').2.trans hi
      | some k =>
        rcases posOf_some hp' with a | ⟨a, _⟩
        · rw [(backEnv_some hp').2]
          exact hx.3 k v ((cutEnv_sv a).trans hi)
        · rw [(h.fresh i a).2.1] at hi; cases hi
  have hkp : τ.kp = (cutEnv ids σ hp w).kp := hx.5.1
  have hsz : w.heap.size ≤ w'.heap.size := by
    have := hc.kp.sz
    rw [hx.5.2.1] at this
    exact this
  have inner : ∀ i k, posOf ids nx i = some k → backHp ids nx hp hpc i = match hpc k with | some o => renOb (fun k => some (unren ids nx k)) o | none => none := by
    intro i k hk
    unfold backHp
    rw [hk]
  have outer : ∀ i, posOf ids nx i = none → backHp ids nx hp hpc i = hp i := by
    intro i hk
    unfold backHp
    rw [hk]
  have liveIn : ∀ i k, posOf ids nx i = some k → backHp ids nx hp hpc i ≠ none → hpc k ≠ none := by
    intro i k hk hl e
    rw [inner i k hk, e] at hl
    exact hl rfl
  have cut_out : ∀ i n, posOf ids nx i = none → hp i ≠ none → σ i = some n → (cutEnv ids σ hp w).kp n = w.heap[n]? := by
    intro i n hk hl hin
    simp only [cutEnv]
    rw [if_pos ⟨i, (posOf_none hk).1, hl, hin⟩]
  have cut_ne : ∀ i n, posOf ids nx i = none → hp i ≠ none → σ i = some n → τ.kp n ≠ none := by
    intro i n hk hl hin
    rw [hkp, cut_out i n hk hl hin]
    have := h.bound i n hin
    rw [Array.getElem?_eq_getElem this]; simp
  have kp_keep : ∀ n o, σ.kp n = some o → τ.kp n = some o := by
    intro n o ho
    rw [hkp]
    simp only [cutEnv]
    split
    · exact h.kp.ok n o ho
    · exact ho
  refine ⟨hext, ⟨fun i o ho => ?_, fun i j n hi hj h1 h2 => ?_, fun i hi => ?_, fun i n hi => ?_, hc.mem, fun i n hi h1 o => ?_, fun b o v hv hlt' => ?_, ⟨Nat.le_trans h.kp.sz hsz, fun n o ho => ?_, fun i n hi h1 => ?_, fun n o v hv => ?_⟩, ⟨fun i hi => Nat.lt_of_lt_of_le (h.rs.lt i hi) (Nat.le_add_right _ _), fun i hi => ?_, fun i hi => ?_⟩⟩⟩
  · cases hk : posOf ids nx i with
    | none =>
      rw [outer i hk] at ho
      refine (h.ob i o ho).keep hext (backEnv_none hk).1 fun n hin => ?_
      have hl : hp i ≠ none := by rw [ho]; simp
      have e := cut_out i n hk hl hin
      have hb := h.bound i n hin
      rw [Array.getElem?_eq_getElem hb] at e
      rw [← hkp] at e
      rw [hc.kp.ok n _ e, Array.getElem?_eq_getElem hb]
    | some k =>
      rw [inner i k hk] at ho
      cases hck : hpc k with
      | none => rw [hck] at ho; cases ho
      | some o' =>
        rw [hck] at ho
        exact renOb_rel (backEnv_ren hn hlt σ τ) (backEnv_some hk).1 (fun v hv => (backEnv_some hk).2.trans hv) ho (hc.ob k o' hck)
  · cases hki : posOf ids nx i with
    | none =>
      rw [(backEnv_none hki).1] at h1
      have hli : hp i ≠ none := by rw [← outer i hki]; exact hi
      cases hkj : posOf ids nx j with
      | none =>
        rw [(backEnv_none hkj).1] at h2
        exact h.inj i j n hli (by rw [← outer j hkj]; exact hj) h1 h2
      | some b =>
        rw [(backEnv_some hkj).1] at h2
        exact absurd (hc.kp.sep b n (liveIn j b hkj hj) h2) (cut_ne i n hki hli h1)
    | some a =>
      rw [(backEnv_some hki).1] at h1
      cases hkj : posOf ids nx j with
      | none =>
        rw [(backEnv_none hkj).1] at h2
        exact absurd (hc.kp.sep a n (liveIn i a hki hi) h1) (cut_ne j n hkj (by rw [← outer j hkj]; exact hj) h2)
      | some b =>
        rw [(backEnv_some hkj).1] at h2
        have := hc.inj a b n (liveIn i a hki hi) (liveIn j b hkj hj) h1 h2
        subst this
        exact posOf_inj hlt hki hkj
  · have hk : posOf ids nx i = some (ids.length + (i - nx)) := by
      have hno : idxOf ids i = none := by
        cases hx : idxOf ids i with
        | none => rfl
        | some j => have := hlt _ (List.mem_of_getElem? (idxOf_some hx)); omega
      simp only [posOf, hno, lenA_eq, Nat.ble_eq_true_of_le (show nx ≤ i by omega), cond_true]
    obtain ⟨f1, f2, f3⟩ := hc.fresh (ids.length + (i - nx)) (by omega)
    refine ⟨(backEnv_some hk).1.trans f1, (backEnv_some hk).2.trans f2, ?_⟩
    rw [inner i _ hk, f3]
  · cases hk : posOf ids nx i with
    | none => rw [(backEnv_none hk).1] at hi; exact Nat.lt_of_lt_of_le (h.bound i n hi) hsz
    | some k => rw [(backEnv_some hk).1] at hi; exact hc.bound k n hi
  · cases hk : posOf ids nx i with
    | none =>
      rw [(backEnv_none hk).1] at h1
      have hli : hp i ≠ none := by rw [← outer i hk]; exact hi
      cases hm : (backEnv ids nx σ τ).mem n o with
      | none => rfl
      | some v => exact absurd (hc.kp.mem n o v hm) (cut_ne i n hk hli h1)
    | some k =>
      rw [(backEnv_some hk).1] at h1
      exact hc.sep k n (liveIn i k hk hi) h1 o
  · have := hc.low b o v hv hlt'
    rw [hx.4] at this
    exact this
  · exact hc.kp.ok n o (kp_keep n o ho)
  · cases hs : (backEnv ids nx σ τ).kp n with
    | none => rfl
    | some o =>
      exfalso
      have hs' : σ.kp n = some o := hs
      cases hk : posOf ids nx i with
      | none =>
        rw [(backEnv_none hk).1] at h1
        rw [h.kp.sep i n (by rw [← outer i hk]; exact hi) h1] at hs'; cases hs'
      | some k =>
        rw [(backEnv_some hk).1] at h1
        have := hc.kp.sep k n (liveIn i k hk hi) h1
        rw [kp_keep n o hs'] at this; cases this
  · cases hs : (backEnv ids nx σ τ).kp n with
    | none => rfl
    | some o' =>
      have := hc.kp.mem n o v hv
      rw [kp_keep n o' hs] at this; cases this
  · have hi : σ.dd i = true := hi
    cases hk : posOf ids nx i with
    | none => exact (backEnv_none hk).1.trans (h.rs.at_ i hi)
    | some k =>
      rcases posOf_some hk with a | ⟨a, _⟩
      · have hd : τ.dd k = true := by
          rw [hx.5.2.2.1]
          show (match ids[k]? with | some id => σ.dd id | none => false) = true
          rw [a]; exact hi
        exact (backEnv_some hk).1.trans (hc.rs.at_ k hd)
      · have := h.rs.lt i (.inl hi); omega
  · have hi : σ.ds i = true := hi
    cases hk : posOf ids nx i with
    | none => exact (backEnv_none hk).2.trans (h.rs.sv i hi)
    | some k =>
      rcases posOf_some hk with a | ⟨a, _⟩
      · have hd : τ.ds k = true := by
          rw [hx.5.2.2.2]
          show (match ids[k]? with | some id => σ.ds id | none => false) = true
          rw [a]; exact hi
        exact (backEnv_some hk).2.trans (hc.rs.sv k hd)
      · have := h.rs.lt i (.inr hi); omega

/-! contracts -/
def untup : AV → List AV
  | .tup l => l
  | x => [x]
def slotsSt (xs : List AV) (hp : Heap) (nx : Nat) : St := { tm := frameOf xs, n := lenA xs, hp := hp, nx := nx, df := [], rd := false }
/-- values in the first slots, and what they reach -/
@[reducible] def flatLay (ks : List SK) (bs : List BK) (nx : Nat) : Lay := { keys := List.range ks.length, ks := ks, bs := bs, n := ks.length, nx := nx, marks := [] }
structure FLay where
  ks : List SK
  bs : List BK
  nx : Nat
@[reducible] def FLay.lay (F : FLay) : Lay := flatLay F.ks F.bs F.nx
@[reducible] def FLay.T (F : FLay) : Type := SKTs F.ks × BTs F.bs
abbrev LeftF (E : Bool → FLay) := (b : Bool) × (E b).T
def isOne {β : Type} : List β → Bool
  | [_] => true
  | _ => false
def foutK (E : Bool → FLay) (v : Out) (hp : Heap) (nx : Nat) : Tree (LeftF E) :=
  match v with
  | .ret (.tup l) => bif isOne l then .fail else match (E true).lay.to (slotsSt l hp nx) with
    | some g => .leaf ⟨true, g⟩
    | none => .fail
  | .ret x => match (E true).lay.to (slotsSt [x] hp nx) with
    | some g => .leaf ⟨true, g⟩
    | none => .fail
  | .pan x => match (E false).lay.to (slotsSt [x] hp nx) with
    | some g => .leaf ⟨false, g⟩
    | none => .fail
def outOf (r : Nat → Option Nat) (b : Bool) (xs : List AV) : Out := bif b then .ret (tupA (renL r xs)) else .pan (match renL r xs with
  | [x] => x
  | _ => .top)
def fspec (probe : Heap → List AV → Option (List Nat)) (L : FLay) (E : Bool → FLay) (fin : L.T → Tree (LeftF E)) (hp : Heap) (nx : Nat) (args : List AV) : Tree (Out × Heap × Nat) :=
  match probe hp args with
  | none => .fail
  | some ids => bif nodupB ids && (ids.all (fun i => Nat.blt i nx) && Nat.ble (lenA ids) L.nx) then
      match L.lay.to (slotsSt (renL (idxOf ids) args) (cutHp ids hp) (lenA ids)) with
      | none => .fail
      | some g => (fin g).map fun z => (outOf (fun k => some (unren ids nx k)) z.1 (ofKs (E z.1).ks z.2.1 (E z.1).nx), backHp ids nx hp ((E z.1).lay.hp z.2), nx + (((E z.1).lay.of z.2).nx - lenA ids))
    else .fail

theorem ofKs_len : ∀ (ks : List SK) (y : SKTs ks) (m : Nat), (ofKs ks y m).length = ks.length
  | [], _, _ => rfl
  | k :: ks, y, m => by simp only [ofKs, List.length_cons, ofKs_len ks y.2]
theorem tmOf_range : ∀ (xs : List AV) (s j : Nat), j < xs.length → tmOf (List.range' s xs.length) xs (s + j) = xs.getD j .top
  | [], _, _, h => by simp at h
  | x :: xs, s, j, h => by
    simp only [List.length_cons, List.range'_succ, tmOf]
    cases j with
    | zero => simp
    | succ j =>
      rw [beq_ne (by omega), cond_false]
      have := tmOf_range xs (s + 1) j (by simpa using h)
      rw [show s + (j + 1) = s + 1 + j by omega, this]
      simp
theorem slots_sat {w0 w : World} {σ : Env} {hp : Heap} {nx : Nat} {xs : List AV} {us : List Value} (hh : HRel w0.heap.size σ hp nx w) (hb : Below w0.heap.size w0 w) (hu : RepL σ xs us) : Sat false w0 σ (slotsSt xs hp nx) { tmps := us.toArray, defers := [] } w := by
  refine ⟨hh, fun t => ?_, ?_, .nil, hb, rfl⟩
  · have := frameOf_rep xs us hu 0 t
    simpa [slotsSt, Array.getD_eq_getD_getElem?] using this
  · simp [slotsSt, lenA_eq, hu.length]
theorem slots_args {w0 w : World} {σ : Env} {F : FLay} {g : F.T} {us : List Value} (hl : us.length = F.ks.length) (h : Sat false w0 σ (F.lay.of g) { tmps := us.toArray, defers := [] } w) : RepL σ (ofKs F.ks g.1 F.nx) us := by
  rw [repL_iff]
  have hlen := ofKs_len F.ks g.1 F.nx
  refine ⟨by rw [hlen, hl], fun i x v hx hv => ?_⟩
  have := h.tm i
  have hi := (List.getElem?_eq_some_iff.1 hx).1
  simp only [Lay.of, flatLay, FLay.lay] at this
  rw [List.range_eq_range', ← hlen] at this
  have e := tmOf_range (ofKs F.ks g.1 F.nx) 0 i hi
  simp only [Nat.zero_add] at e
  rw [e] at this
  have e1 : (ofKs F.ks g.1 F.nx).getD i .top = x := by simp [hx]
  have e2 : us.toArray.getD i undef = v := by simp [Array.getD_eq_getD_getElem?, hv]
  rw [e1, e2] at this
  exact this

theorem lay_len {F : FLay} {xs : List AV} {hp : Heap} {nx : Nat} {g : F.T} (h : F.lay.to (slotsSt xs hp nx) = some g) : xs.length = F.ks.length := by
  unfold Lay.to at h
  cases hb : Nat.beq (slotsSt xs hp nx).n F.lay.n with
  | false => simp [hb] at h
  | true =>
    have := Nat.eq_of_beq_eq_true hb
    simpa [slotsSt, lenA_eq] using this

theorem fspec_ok {X : Ctx} (hX : CtxOk X) {f : FuncId} (m : Nat) {probe : Heap → List AV → Option (List Nat)} {L : FLay} {E : Bool → FLay} (hE : ∀ b, L.nx ≤ (E b).nx) {fin : L.T → Tree (LeftF E)}
    (h : ∀ g R, L.lay.WF g → (fin g).sat R → (evBody X (evFn X m) f (ofKs L.ks g.1 L.nx) (L.lay.hp g) (L.lay.of g).nx (foutK E)).sat (fun z => (E z.1).lay.WF z.2 → R z)) : SpecOk X.P f (fspec probe L E fin) := by
  intro w0 σ hp nx w xs us R hh hb hu hs
  unfold fspec at hs
  cases hp1 : probe hp xs with
  | none => rw [hp1] at hs; exact hs.elim
  | some ids =>
    rw [hp1] at hs
    simp only at hs
    cases hok : (nodupB ids && (ids.all (fun i => Nat.blt i nx) && Nat.ble (lenA ids) L.nx)) with
    | false => rw [hok] at hs; exact hs.elim
    | true =>
      rw [hok, cond_true] at hs
      simp only [Bool.and_eq_true, List.all_eq_true, blt_t, Nat.ble_eq, lenA_eq] at hok
      obtain ⟨hn, hlt, hle⟩ := hok
      have hnd := nodupB_spec hn
      cases hg : L.lay.to (slotsSt (renL (idxOf ids) xs) (cutHp ids hp) (lenA ids)) with
      | none => rw [hg] at hs; exact hs.elim
      | some g =>
        rw [hg] at hs
        simp only [sat_map] at hs
        have hu1 := renL_rep (cutEnv_ren (ids := ids) σ hp w) xs us hu
        have hS := slots_sat (lenA_eq ids ▸ hh.cut hnd) hb hu1
        obtain ⟨hwf, rs, hF⟩ := hS.forget L.lay hg
        have hul : us.length = L.ks.length := by rw [← hu1.length]; exact lay_len hg
        have hargs := slots_args hul hF
        obtain ⟨_, hcalls⟩ := body_sound hX (evFn_sound hX _ m) hF.h hF.bl hargs (h g _ hwf hs)
        have e1 : Ext (cutEnv ids σ hp w) (cutE L.nx (cutEnv ids σ hp w) rs) := cutE_ext (Ext.refl _) fun i hi => cutEnv_free (Nat.le_trans hle hi)
        refine hcalls.mono ?_
        rintro e w' ⟨y, τ, hp2, nx2, k1, k2, k3, k4, k5⟩
        have e2 := e1.trans k1
        have key : ∀ (b : Bool) (ys : List AV) (vs : List Value) (g2 : (E b).T), RepL τ ys vs → (E b).lay.to (slotsSt ys hp2 nx2) = some g2 → ((E b).lay.WF g2 → R (outOf (fun k => some (unren ids nx k)) b (ofKs (E b).ks g2.1 (E b).nx), backHp ids nx hp ((E b).lay.hp g2), nx + (((E b).lay.of g2).nx - lenA ids))) →
            (∀ τ' zs, RepL τ' zs vs → zs.length = vs.length → OutR τ' (bif b then .ret (tupA zs) else .pan (match zs with | [x] => x | _ => .top)) e) →
            ∃ y τ hp' nx', Ext σ τ ∧ HRel w0.heap.size τ hp' nx' w' ∧ Below w0.heap.size w0 w' ∧ OutR τ y e ∧ R (y, hp', nx') := by
          intro b ys vs g2 hv hg2 hR ho
          obtain ⟨wf2, rs2, hF2⟩ := (slots_sat k2 k3 hv).forget (E b).lay hg2
          have hvl : vs.length = (E b).ks.length := by rw [← hv.length]; exact lay_len hg2
          have hout := slots_args hvl hF2
          have e3 : Ext (cutEnv ids σ hp w) (cutE (E b).nx τ rs2) := cutE_ext e2 fun i hi => cutEnv_free (Nat.le_trans hle (Nat.le_trans (hE b) hi))
          have hnx : ids.length ≤ ((E b).lay.of g2).nx := Nat.le_trans hle (Nat.le_trans (hE b) (Nat.le_add_right _ _))
          obtain ⟨f1, f2⟩ := hh.back hnd hlt e3 hF2.h hnx
          have hout' := renL_rep (backEnv_ren hnd hlt σ (cutE (E b).nx τ rs2)) _ _ hout
          refine ⟨_, _, _, _, f1, f2, k3, ?_, by rw [← lenA_eq ids]; exact hR wf2⟩
          have := ho _ _ hout' hout'.length
          unfold outOf
          exact this
        cases y with
        | ret x =>
          cases e with
          | returned v =>
            have hx : Rep τ x v := k4
            have one : (∀ l, x ≠ .tup l) → ∃ y τ hp' nx', Ext σ τ ∧ HRel w0.heap.size τ hp' nx' w' ∧ Below w0.heap.size w0 w' ∧ OutR τ y (.returned v) ∧ R (y, hp', nx') := by
              intro hne
              have k6 : (match (E true).lay.to (slotsSt [x] hp2 nx2) with | some g => Tree.leaf (⟨true, g⟩ : LeftF E) | none => .fail).sat (fun (z : LeftF E) => (E z.1).lay.WF z.2 → R (outOf (fun k => some (unren ids nx k)) z.1 (ofKs (E z.1).ks z.2.1 (E z.1).nx), backHp ids nx hp ((E z.1).lay.hp z.2), nx + (((E z.1).lay.of z.2).nx - lenA ids))) := by
                unfold foutK at k5
                split at k5
                · rename_i l heq
                  cases heq
                  exact absurd rfl (hne l)
                · rename_i x' _ heq
                  cases heq
                  exact k5
                · rename_i heq
                  cases heq
              split at k6 <;> try (exact k6.elim)
              rename_i g2 hg2
              refine key true [x] [v] g2 (by simp only [RepL]; exact ⟨v, [], rfl, hx, rfl⟩) hg2 k6 fun τ' zs hz hzl => ?_
              cases zs with
              | nil => simp at hzl
              | cons z zs =>
                simp only [RepL, List.cons.injEq] at hz
                obtain ⟨v', us', ⟨rfl, rfl⟩, h1, h2⟩ := hz
                cases zs with
                | nil => exact h1
                | cons _ _ => simp at hzl
            cases x with
            | tup l =>
              simp only [foutK] at k5
              cases ho : isOne l with
              | true => rw [ho, cond_true] at k5; exact k5.elim
              | false =>
                rw [ho, cond_false] at k5
                split at k5 <;> try (exact k5.elim)
                rename_i g2 hg2
                simp only [Rep] at hx
                obtain ⟨vs, h1, rfl⟩ := hx
                refine key true l vs g2 h1 hg2 k5 fun τ' zs hz hzl => ?_
                show Rep τ' (tupA zs) _
                have hne : ∀ a, zs = [a] → False := by
                  intro a ha
                  rw [ha] at hzl
                  have := h1.length
                  cases l with
                  | nil => simp at this; rw [← this] at hzl; simp at hzl
                  | cons b l => cases l with
                    | nil => simp [isOne] at ho
                    | cons _ _ => simp at this hzl; omega
                rw [tupA_of hne]
                simp only [Rep]
                exact ⟨vs, hz, rfl⟩
            | _ => exact one (by simp)
          | panicked c => exact k4.elim
          | outgrown => exact k4.elim
        | pan x =>
          cases e with
          | panicked c =>
            obtain ⟨v, hv, rfl⟩ := k4
            simp only [foutK] at k5
            split at k5 <;> try (exact k5.elim)
            rename_i g2 hg2
            refine key false [x] [v] g2 (by simp only [RepL]; exact ⟨v, [], rfl, hv, rfl⟩) hg2 k5 fun τ' zs hz hzl => ?_
            cases zs with
            | nil => simp at hzl
            | cons z zs =>
              simp only [RepL, List.cons.injEq] at hz
              obtain ⟨v', us', ⟨rfl, rfl⟩, h1, h2⟩ := hz
              cases zs with
              | nil => exact ⟨_, h1, rfl⟩
              | cons _ _ => simp at hzl
          | returned v => exact k4.elim
          | outgrown => exact k4.elim

/-- contracts with fuel, together -/
theorem fspec_fuel {P : Program} {f : FuncId} {probe : Heap → List AV → Option (List Nat)} {L : FLay} {E : Bool → FLay} {fin : Nat → L.T → Tree (LeftF E)} (N : L.T → Nat) (h : ∀ n, SpecOk P f (fspec probe L E (fin n))) : SpecOk P f (fspec probe L E (fun g => fin (N g) g)) := by
  intro w0 σ hp nx w xs us R hh hb hu hs
  have : ∃ n, (fspec probe L E (fin n) hp nx xs).sat R := by
    unfold fspec at hs ⊢
    cases hp1 : probe hp xs with
    | none => rw [hp1] at hs; exact hs.elim
    | some ids =>
      rw [hp1] at hs
      simp only at hs
      cases hok : (nodupB ids && (ids.all (fun i => Nat.blt i nx) && Nat.ble (lenA ids) L.nx)) with
      | false => rw [hok] at hs; exact hs.elim
      | true =>
        rw [hok, cond_true] at hs
        cases hg : L.lay.to (slotsSt (renL (idxOf ids) xs) (cutHp ids hp) (lenA ids)) with
        | none => rw [hg] at hs; exact hs.elim
        | some g =>
          rw [hg] at hs
          exact ⟨N g, by simp only [hok, cond_true, hg]; exact hs⟩
  obtain ⟨n, hn⟩ := this
  exact h n w0 σ hp nx w xs us R hh hb hu hn
/-- a context with contracts of functions that turn memory -/
def ctxS (P : Program) (pu : List (Nat × PureT)) (fns : List (Nat × Func)) (loops : List ((Nat × Nat) × (St → Tree (XE × St)))) (specs : List (Nat × (Heap → Nat → List AV → Tree (Out × Heap × Nat)))) : Ctx := { P := P, u := 64, fns := fns, loops := loops, pures := pu, specs := specs }
theorem ctxS_ok {P : Program} (hm : P.follows .mixedOrders = true) {pu : List (Nat × PureT)} {fns : List (Nat × Func)} {loops : List ((Nat × Nat) × (St → Tree (XE × St)))} {specs : List (Nat × (Heap → Nat → List AV → Tree (Out × Heap × Nat)))} (hp : PuOk P pu) (hf : ∀ p ∈ fns, FnIs P p)
    (hl : ∀ p ∈ fns, ∀ d ∈ loopsOf (bodyOf p.2), ∀ g, assoc2 loops p.1 (keyOf d) = some g → LoopOk P p.1 d g) (hs : ∀ p ∈ specs, Plain P p.1 ∧ SpecOk P p.1 p.2) : CtxOk (ctxS P pu fns loops specs) :=
  ⟨hm, hp, fun p h => ⟨(hf p h).1, (hf p h).2.1, fun c hc d hd f hfd => hl p h d (by unfold bodyOf; rw [hc]; exact hd) f hfd⟩, hs⟩

/-! contracts of functions that leave memory alone, with functions among the arguments -/
mutual
theorem toK_wf0 {σ : Env} : ∀ (k : SK) {x : AV} {y : SKT k} {rs : Roots} {v : Value}, toK 0 noHeap k x = some (y, rs) → Rep σ x v → WFK k y
  | .d c, x, y, rs, v, h, hv => by
    simp only [toK, Option.map_eq_some_iff, Prod.mk.injEq] at h
    obtain ⟨z, hz, rfl, _⟩ := h
    exact (decA_enc hz hv σ (.inl rfl)).2
  | .o ty c, x, y, rs, v, h, hv => by
    simp only [toK] at h
    unfold toO at h
    split at h
    · simp [noHeap] at h
    · cases hb : Nat.blt 0 c.size with
      | false => rw [hb] at h; cases h
      | true =>
        rw [hb, cond_true] at h
        simp only [Option.some.injEq, Prod.mk.injEq] at h
        obtain ⟨rfl, _⟩ := h
        exact ⟨by simp [maxK], by simp⟩
    · cases h
  | .p id row st col, x, y, rs, v, h, hv => trivial
  | .sli id off st len cap, x, y, rs, v, h, hv => trivial
  | .r c col, x, y, rs, v, h, hv => by
    simp only [toK] at h
    obtain ⟨_, rfl⟩ := toRp_spec h
    simp only [Rep] at hv
    obtain ⟨_, _, vs, _, _, h3⟩ := hv
    exact RepD.wf c y vs h3
  | .y id, x, y, rs, v, h, hv => trivial
  | .q id, x, y, rs, v, h, hv => trivial
  | .m _ _, x, y, rs, v, h, hv => by simp [toK] at h
  | .w id ty c, x, y, rs, v, h, hv => by
    simp only [toK] at h
    exact absurd (toW_spec h).2.2.1 (Nat.not_lt_zero id)
  | .i t k, x, y, rs, v, h, hv => by
    simp only [toK] at h
    obtain ⟨_, rfl⟩ := toI_spec h
    simp only [Rep] at hv
    obtain ⟨_, hu, _⟩ := hv
    exact hu.2
  | .f f a c, x, y, rs, v, h, hv => by
    simp only [toK] at h
    split at h <;> try (cases h; done)
    rename_i u w hx
    have := asFn_spec hx
    subst this
    split at h <;> try (cases h; done)
    rename_i y1 r1 y2 r2 h1 h2
    simp only [Option.some.injEq, Prod.mk.injEq] at h
    obtain ⟨rfl, _⟩ := h
    simp only [Rep] at hv
    obtain ⟨p, q, k1, k2, k3⟩ := hv
    exact ⟨toKs_wf0 a h1 k1, toKs_wf0 c h2 k2⟩
  | .ag ks, x, y, rs, v, h, hv => by
    simp only [toK] at h
    split at h <;> try (cases h; done)
    rename_i cs hx
    have := asAgg_spec hx
    subst this
    simp only [Rep] at hv
    obtain ⟨vs, k1, k2⟩ := hv
    exact toKs_wf0 ks h k1
theorem toKs_wf0 {σ : Env} : ∀ (ks : List SK) {xs : List AV} {y : SKTs ks} {rs : Roots} {vs : List Value}, toKs 0 noHeap ks xs = some (y, rs) → RepL σ xs vs → WFKs ks y
  | [], xs, y, rs, vs, h, hv => trivial
  | k :: ks, xs, y, rs, vs, h, hv => by
    cases xs with
    | nil => simp [toKs] at h
    | cons x xs =>
      simp only [toKs] at h
      split at h <;> try (cases h; done)
      rename_i y1 r1 y2 r2 h1 h2
      simp only [Option.some.injEq, Prod.mk.injEq] at h
      obtain ⟨rfl, _⟩ := h
      simp only [RepL] at hv
      obtain ⟨v, us, e, k1, k2⟩ := hv
      exact ⟨toK_wf0 k h1 k1, toKs_wf0 ks h2 k2⟩
end
def kspec (ks : List SK) (rs : List TC) (ok : SKTs ks → Bool) (f : SKTs ks → TCTs rs) : PureT :=
  { run := fun l => match toKs 0 noHeap ks l with
      | some (y, []) => some (ok y, encR rs (f y))
      | _ => none
    flat := noSls rs
    vw := ks.map fun
      | .r c o => .one (some (c, o))
      | .f _ _ cs => .cl (cs.map fun
        | .r c o => some (c, o)
        | _ => none)
      | _ => .one none }
theorem kq_of {P : Program} {f : FuncId} {ks : List SK} {rs : List TC} {ok : SKTs ks → Bool} {F : SKTs ks → TCTs rs}
    (h : ∀ x : SKTs ks, ok x = true → WFKs ks x → ∀ (w : World) (mem : Nat → Nat → Option Value) (us : List Value), MemOk mem w → RepL (env0 mem) (ofKs ks x 0) us → Calls' P f us.toArray w (CRes w (env0 mem) (outK P rs) (fun y => y = F x))) : PureOk P f (kspec ks rs ok F) := by
  intro σ w xs us r _ hm hu hg
  simp only [kspec] at hg
  split at hg <;> try (simp at hg; done)
  rename_i x hx
  simp only [Option.some.injEq, Prod.mk.injEq] at hg
  obtain ⟨hok, rfl⟩ := hg
  have hwf : WFKs ks x := toKs_wf0 ks hx hu
  have h1 : RepL (env0 σ.mem) (ofKs ks x 0) us := toKs_rep (σ := σ) (τ := env0 σ.mem) rfl (fun i hi => absurd hi (Nat.not_lt_zero i)) (fun i hi => absurd hi (Nat.not_lt_zero i)) ks hx hu (fun j r h => by simp at h)
  refine (h x hok hwf w σ.mem us hm h1).mono ?_
  rintro e w' ⟨y, τ, hp', nx', k1, k2, k3, k4, k5⟩
  cases y with
  | pan z => simp [outK, Tree.sat] at k5
  | ret z =>
    simp only [outK] at k5
    split at k5 <;> try (simp [Tree.sat] at k5; done)
    rename_i q hq
    simp only [Tree.sat] at k5
    subst k5
    cases e with
    | returned v =>
      have hz := toR_rep (P := P) k2 (show Rep τ z v from k4)
      refine ⟨v, frozen τ hp' (idsR hp' z) w', rfl, frozen_ok k2 _, fun b o u hb => frozen_ge k2 _ b o u (k1.2 b o u hb), fun b o u hb => ?_, fun _ => decR_enc hq hz _ (.inl rfl), fun hf τ' _ => decR_enc hq hz τ' (.inr hf), fun h => absurd (show false = true from h) (by decide), k3⟩
      unfold frozen at hb
      split at hb
      · rename_i hex
        obtain ⟨id, _, hne, hat⟩ := hex
        exact .inr (k2.ge hne hat)
      · rcases Nat.lt_or_ge b w.heap.size with hlt | hge
        · have := k2.low b o u hb hlt
          rw [k1.4] at this
          exact .inl this
        · exact .inr hge
    | panicked c => exact k4.elim
    | outgrown => exact k4.elim
theorem kq {X : Ctx} (hX : CtxOk X) {f : FuncId} {ks : List SK} {rs : List TC} {ok : SKTs ks → Bool} {F : SKTs ks → TCTs rs} (m : Nat)
    (h : ∀ x : SKTs ks, ok x = true → WFKs ks x → (evFn X m (.fn f) (ofKs ks x 0) noHeap 0 (outK X.P rs)).sat (fun y => y = F x)) : PureOk X.P f (kspec ks rs ok F) :=
  kq_of fun x hok hwf w mem us hm hu => (evFn_sound hX (fun y => y = F x) m w (env0 mem) noHeap 0 w (.fn f) _ us (outK X.P rs) (hrel_none hm _) (Below.refl _ w) hu (h x hok hwf)).2

/-! contracts of functions that panic where a condition fails -/
def kspecP (ks : List SK) (rs : List TC) (ok : SKTs ks → Bool) (f : SKTs ks → TCTs rs) (p : TypeId × IntKind × Int) : PureT := { kspec ks rs ok f with pv := some p }
def outP (P : Program) (rs : List TC) (p : TypeId × IntKind × Int) (v : Out) (hp : Heap) (_ : Nat) : Tree (Option (TCTs rs)) :=
  match v with
  | .ret x => match decR rs (toR P hp x) with
    | some y => .leaf (some y)
    | none => .fail
  | .pan (.ifc t (.int k n)) => bif decide ((t, k, n) = p) then .leaf none else .fail
  | .pan _ => .fail
theorem kqP {X : Ctx} (hX : CtxOk X) {f : FuncId} {ks : List SK} {rs : List TC} {ok : SKTs ks → Bool} {F : SKTs ks → TCTs rs} {p : TypeId × IntKind × Int} (m : Nat) (hin : inKB p.2.1 p.2.2 = true)
    (h : ∀ x : SKTs ks, WFKs ks x → (evFn X m (.fn f) (ofKs ks x 0) noHeap 0 (outP X.P rs p)).sat (fun y => y = bif ok x then some (F x) else none)) : PureOk X.P f (kspecP ks rs ok F p) ∧ PanOk X.P f (kspecP ks rs ok F p) := by
  have calls : ∀ x : SKTs ks, WFKs ks x → ∀ (w : World) (mem : Nat → Nat → Option Value) (us : List Value), MemOk mem w → RepL (env0 mem) (ofKs ks x 0) us → Calls' X.P f us.toArray w (CRes w (env0 mem) (outP X.P rs p) (fun y => y = bif ok x then some (F x) else none)) := fun x hwf w mem us hm hu =>
    (evFn_sound hX _ m w (env0 mem) noHeap 0 w (.fn f) _ us (outP X.P rs p) (hrel_none hm _) (Below.refl _ w) hu (h x hwf)).2
  constructor
  · have : PureOk X.P f (kspec ks rs ok F) := kq_of fun x hok hwf w mem us hm hu => by
      refine (calls x hwf w mem us hm hu).mono ?_
      rintro e w' ⟨y, τ, hp', nx', k1, k2, k3, k4, k5⟩
      refine ⟨y, τ, hp', nx', k1, k2, k3, k4, ?_⟩
      rw [hok, cond_true] at k5
      cases y with
      | ret z =>
        simp only [outP, outK] at k5 ⊢
        split at k5
        · rename_i q hq
          rw [hq]
          simp only [Tree.sat, Option.some.injEq] at k5 ⊢
          exact k5
        · exact k5.elim
      | pan z =>
        exfalso
        unfold outP at k5
        split at k5
        · rename_i heq; cases heq
        · rename_i t k n heq
          cases hd : decide ((t, k, n) = p) with
          | true => rw [hd] at k5; simp [Tree.sat] at k5
          | false => rw [hd] at k5; exact k5
        · exact k5
    exact this
  · intro q hq σ w xs us x hbd hm hu hg
    have e : p = q := Option.some.inj hq
    subst e
    refine ⟨inKB_spec.1 hin, ?_⟩
    simp only [kspecP, kspec] at hg
    split at hg <;> try (simp at hg; done)
    rename_i y hy
    simp only [Option.some.injEq, Prod.mk.injEq] at hg
    obtain ⟨hok, _⟩ := hg
    have h1 : RepL (env0 σ.mem) (ofKs ks y 0) us := toKs_rep (σ := σ) (τ := env0 σ.mem) rfl (fun i hi => absurd hi (Nat.not_lt_zero i)) (fun i hi => absurd hi (Nat.not_lt_zero i)) ks hy hu (fun j r h => by simp at h)
    refine (calls y (toKs_wf0 ks hy hu) w σ.mem us hm h1).mono ?_
    rintro e w' ⟨z, τ, hp', nx', k1, k2, k3, k4, k5⟩
    rw [hok, cond_false] at k5
    cases z with
    | ret z =>
      exfalso
      simp only [outP] at k5
      split at k5
      · simp [Tree.sat] at k5
      · exact k5
    | pan z =>
      unfold outP at k5
      split at k5
      · rename_i heq; cases heq
      · rename_i t k n heq
        cases heq
        cases hd : decide ((t, k, n) = p) with
        | false => rw [hd] at k5; exact k5.elim
        | true =>
          have := of_decide_eq_true hd
          subst this
          cases e with
          | panicked c =>
            obtain ⟨v, hv, rfl⟩ := k4
            simp only [Rep] at hv
            obtain ⟨u, ⟨rfl, _⟩, rfl⟩ := hv
            exact ⟨rfl, k3⟩
          | returned v => exact k4.elim
          | outgrown => exact k4.elim
      · exact k5.elim
end V
end Go.Proofs.Ytgchccljmjmibaa
