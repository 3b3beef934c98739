/- The arguments of a law that are flat data (integers, bools, structs and arrays of these): what their values look like, and that they read alike in every memory. -/
import Derived.Test.YthgmpjljlpacgaaEl
import Derived.OpenShut
namespace Go.Proofs.Ythgmpjljlpacgaa
open Go.RowKit Go.WideShapes Go.ChangeShapes
namespace Ev

inductive CK where
  | b
  | i (k : IntKind)
def CKok : List CK → List Value → Prop
  | [], us => us = []
  | .b :: ks, us => ∃ x vs, us = .bool x :: vs ∧ CKok ks vs
  | .i k :: ks, us => ∃ n vs, us = .int k n :: vs ∧ inK k n ∧ CKok ks vs
theorem CKok.append : ∀ {ks ls : List CK} {us vs : List Value}, CKok ks us → CKok ls vs → CKok (ks ++ ls) (us ++ vs)
  | [], _, us, vs, h, k => by simp only [CKok] at h; subst h; exact k
  | .b :: ks, ls, us, vs, h, k => by
    simp only [CKok] at h
    obtain ⟨x, us', rfl, h'⟩ := h
    simp only [List.cons_append, CKok]
    exact ⟨x, us' ++ vs, rfl, CKok.append h' k⟩
  | .i q :: ks, ls, us, vs, h, k => by
    simp only [CKok] at h
    obtain ⟨n, us', rfl, hn, h'⟩ := h
    simp only [List.cons_append, CKok]
    exact ⟨n, us' ++ vs, rfl, hn, CKok.append h' k⟩

def flatF (P : Program) (fk : TypeId → Option (List CK)) : List Field → Nat → Option (List CK)
  | [], _ => some []
  | f :: fs, off => match fk f.type, flatF P fk fs (off + P.cellsOf f.type) with
    | some a, some r => bif Nat.beq f.offset off && Nat.beq a.length (P.cellsOf f.type) then some (a ++ r) else none
    | _, _ => none
def flatK (P : Program) : Nat → TypeId → Option (List CK)
  | 0, _ => none
  | d + 1, t => match P.underlying t with
    | some .bool => some [.b]
    | some (.int k) => some [.i k]
    | some (.struct fs) => match flatF P (flatK P d) fs.toList 0 with
      | some r => bif Nat.beq r.length (P.cellsOf t) then some r else none
      | none => none
    | _ => none

theorem wf_in {k : IntKind} {n : Int} (h : (Lit.int k n).wf = true) : inK k n := by
  cases k <;> simp [Lit.wf, IntKind.min, IntKind.max, IntKind.signed, IntKind.bits] at h <;> simp only [inK, minK, maxK] <;> omega

theorem repL_consI {σ : Nat → Option Nat} {x : AV} {xs : List AV} {v : Value} {vs : List Value} : RepL σ (x :: xs) (v :: vs) ↔ Rep σ x v ∧ RepL σ xs vs := by
  simp only [RepL]
  constructor
  · rintro ⟨v', vs', h, h1, h2⟩
    simp only [List.cons.injEq] at h
    obtain ⟨rfl, rfl⟩ := h
    exact ⟨h1, h2⟩
  · rintro ⟨h1, h2⟩
    exact ⟨v, vs, rfl, h1, h2⟩
theorem repL_nilI {σ : Nat → Option Nat} : RepL σ [] [] ↔ True := by simp only [RepL]
theorem rep_intI {σ : Nat → Option Nat} {k : IntKind} {n : Int} : Rep σ (.int k n) (.int k n) ↔ inK k n := by simp only [Rep, true_and]
theorem rep_boolI {σ : Nat → Option Nat} {b : Bool} : Rep σ (.bool b) (.bool b) ↔ True := by simp only [Rep]
theorem rep_aggI {σ : Nat → Option Nat} {xs : List AV} {vs : List Value} : Rep σ (.agg xs) (.agg vs.toArray) ↔ RepL σ xs vs := by
  simp only [Rep]
  constructor
  · rintro ⟨ws, h, h1⟩
    have : vs = ws := by have := congrArg (fun v => match v with | .agg a => a.toList | _ => []) h1; simpa using this
    rw [this]; exact h
  · intro h; exact ⟨vs, h, rfl⟩

section
variable {H : Type} {enc : TypeId × Value → H} {P : Program}

/-- flat data hang on no memory, and hold numbers of their kinds -/
def FlatAt (enc : TypeId × Value → H) (P : Program) (ks : List CK) (t : TypeId) : Prop :=
  ∀ (w : World) (base : Nat) (spare : Nat → Bool) (held : Bool) (fuel : Nat) (cs : List Value) (d : DataW H) (ps : List MemPlace), DataW.trod enc P w base spare held fuel t cs = some (d, ps) →
    ps = [] ∧ CKok ks cs ∧ ∀ (w' : World) (base' : Nat) (spare' : Nat → Bool) (held' : Bool), DataW.trod enc P w' base' spare' held' fuel t cs = some (d, ps)

theorem mapM_some_cons {α β : Type} {f : α → Option β} {a : α} {l : List α} {r : List β} (h : (a :: l).mapM f = some r) : ∃ y ys, f a = some y ∧ l.mapM f = some ys ∧ r = y :: ys := by
  simp only [List.mapM_cons, Option.bind_eq_bind, Option.pure_def] at h
  cases h1 : f a with
  | none => simp [h1] at h
  | some y =>
    cases h2 : l.mapM f with
    | none => simp [h1, h2] at h
    | some ys => simp [h1, h2] at h; exact ⟨y, ys, rfl, rfl, h.symm⟩

theorem flatF_at {fk : TypeId → Option (List CK)} (hk : ∀ t ks, fk t = some ks → FlatAt enc P ks t) {cs : List Value} {w : World} {base : Nat} {spare : Nat → Bool} {held : Bool} {fuel : Nat} :
    ∀ (fs : List Field) (off : Nat) (ks : List CK) (ys : List (DataW H × List MemPlace)), flatF P fk fs off = some ks →
      fs.mapM (fun f => DataW.trod enc P w base spare held fuel f.type ((cs.drop f.offset).take (P.cellsOf f.type))) = some ys →
      off + ks.length ≤ cs.length →
      (ys.flatMap (·.2) = []) ∧ CKok ks ((cs.drop off).take ks.length) ∧ ∀ (w' : World) (base' : Nat) (spare' : Nat → Bool) (held' : Bool), fs.mapM (fun f => DataW.trod enc P w' base' spare' held' fuel f.type ((cs.drop f.offset).take (P.cellsOf f.type))) = some ys
  | [], off, ks, ys, h, hy, _ => by
    simp [flatF] at h; subst h
    simp at hy; subst hy
    exact ⟨rfl, by simp [CKok], fun _ _ _ _ => rfl⟩
  | f :: fs, off, ks, ys, h, hy, hl => by
    simp only [flatF] at h
    cases ha : fk f.type with
    | none => simp [ha] at h
    | some a =>
      cases hr : flatF P fk fs (off + P.cellsOf f.type) with
      | none => simp [ha, hr] at h
      | some r =>
        simp only [ha, hr] at h
        cases hb : (Nat.beq f.offset off && Nat.beq a.length (P.cellsOf f.type)) with
        | false => simp [hb] at h
        | true =>
          simp [hb] at h; subst h
          simp only [Bool.and_eq_true, Nat.beq_eq] at hb
          obtain ⟨hb1, hb2⟩ := hb
          obtain ⟨y, ys', h1, h2, rfl⟩ := mapM_some_cons hy
          obtain ⟨k1, k2, k3⟩ := hk f.type a ha w base spare held fuel _ y.1 y.2 h1
          rw [List.length_append] at hl
          obtain ⟨m1, m2, m3⟩ := flatF_at hk fs (off + P.cellsOf f.type) r ys' hr h2 (by omega)
          refine ⟨?_, ?_, fun w' base' spare' held' => ?_⟩
          · simp only [List.flatMap_cons, k1, m1, List.nil_append]
          · rw [hb1, ← hb2] at k2
            rw [← hb2] at m2
            have e : (cs.drop off).take (a ++ r).length = (cs.drop off).take a.length ++ (cs.drop (off + a.length)).take r.length := by
              rw [List.length_append, List.take_add, List.drop_drop]
            rw [e]
            exact k2.append m2
          · have q1 := k3 w' base' spare' held'
            have q2 := m3 w' base' spare' held'
            simp only [List.mapM_cons, q1, q2]
            rfl

theorem flatK_at : ∀ (d : Nat) (t : TypeId) (ks : List CK), flatK P d t = some ks → FlatAt enc P ks t
  | 0, _, _, h => by simp [flatK] at h
  | d + 1, t, ks, h => by
    intro w base spare held fuel cs dd ps ht
    cases fuel with
    | zero => simp [DataW.trod] at ht
    | succ fuel =>
      simp only [flatK] at h
      cases hu : P.underlying t with
      | none => simp [hu] at h
      | some desc =>
        cases desc <;> simp only [hu] at h <;> try (simp at h; done)
        case bool =>
          simp at h; subst h
          unfold DataW.trod at ht ⊢
          simp only [hu] at ht ⊢
          split at ht <;> simp_all
          obtain ⟨_, rfl⟩ := ht
          simp [CKok]
        case int k =>
          simp at h; subst h
          unfold DataW.trod at ht ⊢
          simp only [hu] at ht ⊢
          split at ht <;> simp_all
          obtain ⟨⟨rfl, hwf⟩, hd, rfl⟩ := ht
          simp [CKok, wf_in hwf]
        case struct fs =>
          cases hr : flatF P (flatK P d) fs.toList 0 with
          | none => simp [hr] at h
          | some r =>
            simp only [hr] at h
            cases hb : Nat.beq r.length (P.cellsOf t) with
            | false => simp [hb] at h
            | true =>
              simp [hb] at h; subst h
              simp only [Nat.beq_eq] at hb
              unfold DataW.trod at ht ⊢
              simp only [hu] at ht ⊢
              by_cases hl : cs.length = P.cellsOf t
              · rw [if_pos hl] at ht
                simp only [if_pos hl]
                cases hm : (fs.toList.mapM fun f => DataW.trod enc P w base spare held fuel f.type ((cs.drop f.offset).take (P.cellsOf f.type))) with
                | none => rw [hm] at ht; simp at ht
                | some ys =>
                  rw [hm] at ht
                  simp only [Option.map_some, Option.some.injEq, Prod.mk.injEq] at ht
                  obtain ⟨m1, m2, m3⟩ := flatF_at (flatK_at d) fs.toList 0 r ys hr hm (by omega)
                  refine ⟨by rw [← ht.2]; exact m1, ?_, fun w' base' spare' held' => ?_⟩
                  · have e : (cs.drop 0).take r.length = cs := by rw [List.drop_zero, List.take_of_length_le (by omega)]
                    rwa [e] at m2
                  · rw [m3 w' base' spare' held']
                    simp only [Option.map_some, Option.some.injEq, Prod.mk.injEq]
                    exact ht
              · rw [if_neg hl] at ht; simp at ht

/-- a flat argument, opened: its cells, and that it reads alike in every memory -/
theorem open_flat {w : World} {base : Nat} {spare : Nat → Bool} {held : Bool} {r : Reach} {b0 d : Nat} {t : TypeId} {fs : Array Field} {ks : List CK} {v : Value} {dd : DataW H} {ps : List MemPlace} (hk : flatK P d t = some ks) (ht : P.underlying t = some (.struct fs))
    (hval : Value.okWide P w r b0 t v) (hd : DataW.Trod enc P w base spare held t v dd ps) :
    ∃ us : List Value, v = .agg us.toArray ∧ CKok ks us ∧ ps = [] ∧ ∀ (w' : World) (base' : Nat) (spare' : Nat → Bool) (held' : Bool), DataW.Trod enc P w' base' spare' held' t v dd [] := by
  obtain ⟨cs, rfl, _⟩ := okWide_struct ht hval
  obtain ⟨fuel, hf⟩ := hd
  obtain ⟨k1, k2, k3⟩ := flatK_at d t ks hk w base spare held fuel _ _ _ hf
  subst k1
  exact ⟨cs.toList, by cases cs; rfl, by simpa [Value.cells] using k2, rfl, fun w' base' spare' held' => ⟨fuel, k3 w' base' spare' held'⟩⟩
end
end Ev
end Go.Proofs.Ythgmpjljlpacgaa
