/- Maps that are the call's own: their entries as data, and what the operations on maps do to them. -/
import Derived.Test.YtgchccljmjmibaaVA
import Derived.MapKept
namespace Go.Proofs.Ytgchccljmjmibaa
open Go.RowKit
namespace V

mutual
theorem beqD_iff : ∀ (c : TC) (x y : TCT c), keyC c = true → (beqD c x y = true ↔ x = y)
  | .b, x, y, _ => by simp only [beqD]; exact beq_iff_eq
  | .i _, x, y, _ => by simp only [beqD]; exact beq_iff_eq
  | .s, x, y, _ => by
    simp only [beqD]
    rw [beq_iff_eq]
    exact ⟨fun h => bytes_eq h, fun h => by rw [h]⟩
  | .sl _, _, _, h => by simp [keyC] at h
  | .st cs, x, y, h => by simp only [beqD]; exact beqDs_iff cs x y (by simpa only [keyC] using h)
theorem beqDs_iff : ∀ (cs : List TC) (x y : TCTs cs), keyCs cs = true → (beqDs cs x y = true ↔ x = y)
  | [], _, _, _ => by simp [beqDs]
  | c :: cs, (x, x'), (y, y'), h => by
    simp only [keyCs, Bool.and_eq_true] at h
    simp only [beqDs, Bool.and_eq_true, beqD_iff c x y h.1, beqDs_iff cs x' y' h.2, Prod.mk.injEq]
end
theorem keyCs_replicate {c : TC} (h : keyC c = true) : ∀ (n : Nat), keyCs (List.replicate n c) = true
  | 0 => rfl
  | n + 1 => by simp only [List.replicate_succ, keyCs, h, keyCs_replicate h n, Bool.and_self]
mutual
theorem enc_len : ∀ (c : TC) (x : TCT c), (enc c x).length = c.size
  | .b, _ => rfl
  | .i _, _ => rfl
  | .s, _ => rfl
  | .sl _, _ => rfl
  | .st cs, x => by simp only [enc, TC.size]; exact encs_len cs x
theorem encs_len : ∀ (cs : List TC) (x : TCTs cs), (encs cs x).length = sizes cs
  | [], _ => rfl
  | c :: cs, (x, y) => by simp only [encs, sizes, List.length_append, enc_len c x, encs_len cs y]
end
theorem enc_one {c : TC} (h : ∀ cs, c ≠ .st cs) (x : TCT c) : enc c x = [encA c x] := by
  cases c with
  | st cs => exact absurd rfl (h cs)
  | _ => rfl

section
variable {P : Program}

theorem part_enc {t : TypeId} {c : TC} (h : aggOk P t c = true) (pre post : List AV) (x : TCT c) : partA P t (pre ++ (enc c x ++ post)) pre.length = some (encA c x) := by
  have plain : (∀ cs, c ≠ .st cs) → isAggT P t = some false → partA P t (pre ++ (enc c x ++ post)) pre.length = some (encA c x) := by
    intro hc ha
    unfold partA
    simp only [ha]
    rw [enc_one hc x, nth_eq]
    simp
  cases c with
  | st cs =>
    simp only [aggOk] at h
    split at h <;> try (simp at h; done)
    rename_i sz h1 h2
    have hs : sz = sizes cs := by simpa using h
    unfold partA
    simp only [h1, h2, enc, encA]
    have hl := encs_len cs x
    have hb : Nat.ble (pre.length + sz) (lenA (pre ++ (encs cs x ++ post))) = true := by
      rw [Nat.ble_eq, lenA_eq]
      simp only [List.length_append]
      omega
    rw [hb, cond_true, takeA_eq, dropA_eq, List.drop_left, hs, ← hl, List.take_left]
  | _ =>
    simp only [aggOk] at h
    split at h <;> try (simp at h; done)
    rename_i ha
    exact plain (by simp) ha

theorem eqF_keys {E : TypeId → AV → AV → Option Bool} {key : TypeId → TC → Bool} (H : ∀ t c, key t c = true → ∀ x y, E t (encA c x) (encA c y) = some (beqD c x y)) : ∀ (fs : List Field) (cs : List TC) (off : Nat) (pre pre' : List AV), keyF P key fs cs off = true → pre.length = off → pre'.length = off →
    ∀ x y, eqF P E fs (pre ++ encs cs x) (pre' ++ encs cs y) = some (beqDs cs x y)
  | [], [], _, _, _, _, _, _ => fun _ _ => by simp [eqF, beqDs]
  | [], _ :: _, _, _, _, h, _, _ => by simp [keyF] at h
  | _ :: _, [], _, _, _, h, _, _ => by simp [keyF] at h
  | f :: fs, c :: cs, off, pre, pre', h, hl, hl' => fun (x, xs) (y, ys) => by
    simp only [keyF, Bool.and_eq_true, Bool.not_eq_true', decide_eq_false_iff_not, Nat.beq_eq] at h
    obtain ⟨h1, h2, h3, h4, h5⟩ := h
    unfold eqF
    simp only [h1, decide_false, cond_false, encs]
    have e1 := part_enc h3 pre (encs cs xs) x
    have e2 := part_enc h3 pre' (encs cs ys) y
    rw [hl, ← h2] at e1
    rw [hl', ← h2] at e2
    have ih := eqF_keys H fs cs (off + c.size) (pre ++ enc c x) (pre' ++ enc c y) h5 (by rw [List.length_append, enc_len, hl]) (by rw [List.length_append, enc_len, hl']) xs ys
    simp only [List.append_assoc] at ih
    simp only [e1, e2, H f.type c h4, ih, beqDs]
theorem eqI_keys {E : TypeId → AV → AV → Option Bool} {e : TypeId} {c : TC} (ha : aggOk P e c = true) (H : ∀ x y, E e (encA c x) (encA c y) = some (beqD c x y)) : ∀ (m k : Nat) (pre pre' : List AV), pre.length = k * c.size → pre'.length = k * c.size →
    ∀ x y, eqI P E e c.size (pre ++ encs (List.replicate m c) x) (pre' ++ encs (List.replicate m c) y) (List.range' k m) = some (beqDs (List.replicate m c) x y)
  | 0, k, pre, pre', _, _ => fun _ _ => by simp [eqI, beqDs, List.range']
  | m + 1, k, pre, pre', hl, hl' => fun (x, xs) (y, ys) => by
    simp only [List.range'_succ, List.replicate_succ, encs]
    unfold eqI
    have e1 := part_enc ha pre (encs (List.replicate m c) xs) x
    have e2 := part_enc ha pre' (encs (List.replicate m c) ys) y
    rw [hl] at e1
    rw [hl'] at e2
    have ih := eqI_keys ha H m (k + 1) (pre ++ enc c x) (pre' ++ enc c y) (by rw [List.length_append, enc_len, hl, Nat.add_mul, Nat.one_mul]) (by rw [List.length_append, enc_len, hl', Nat.add_mul, Nat.one_mul]) xs ys
    simp only [List.append_assoc] at ih
    simp only [e1, e2, H, ih, beqDs]

theorem keyT_C : ∀ (d : Nat) (t : TypeId) (c : TC), keyT P d t c = true → keyC c = true
  | 0, _, _, h => by simp [keyT] at h
  | d + 1, t, c, h => by
    unfold keyT at h
    split at h <;> try (simp at h; done)
    · rfl
    · rfl
    · rfl
    · rename_i fs cs hu
      simp only [Bool.and_eq_true] at h
      have h2 := h.2
      simp only [keyC]
      clear hu h
      revert h2
      generalize 0 = off
      generalize fs.toList = l
      intro h2
      induction l generalizing cs off with
      | nil => cases cs <;> simp [keyF] at h2 ⊢; rfl
      | cons f l ih =>
        cases cs with
        | nil => simp [keyF] at h2
        | cons c cs =>
          simp only [keyF, Bool.and_eq_true] at h2
          simp only [keyCs, Bool.and_eq_true]
          exact ⟨keyT_C d _ _ h2.2.2.2.1, ih _ _ h2.2.2.2.2⟩
    · split at h <;> try (simp at h; done)
      simp only [Bool.and_eq_true] at h
      rw [keyC, beqs_eq _ _ h.2.1]
      exact keyCs_replicate (keyT_C d _ _ h.2.2.2) _

theorem eqA_keys : ∀ (d D : Nat) (t : TypeId) (c : TC), d ≤ D → keyT P d t c = true → ∀ x y, eqA P D t (encA c x) (encA c y) = some (beqD c x y)
  | 0, _, _, _, _, h => by simp [keyT] at h
  | d + 1, 0, _, _, hd, _ => by omega
  | d + 1, D + 1, t, c, hd, h => by
    intro x y
    unfold keyT at h
    split at h <;> try (simp at h; done)
    · rename_i hu
      unfold eqA
      simp only [hu, encA, beqD]
    · rename_i k k' hu
      have hk : k = k' := by simpa using h
      subst hk
      unfold eqA
      simp only [hu, encA, beqD, decide_true, cond_true]
    · rename_i hu
      unfold eqA
      simp only [hu, encA, beqD]
    · rename_i fs cs hu
      simp only [Bool.and_eq_true, Bool.not_eq_true'] at h
      unfold eqA
      simp only [hu, encA, beqD, h.1, cond_false]
      exact eqF_keys (fun t c hk => eqA_keys d D t c (by omega) hk) fs.toList cs 0 [] [] h.2 rfl rfl x y
    · rename_i n e cs hu
      split at h <;> try (simp at h; done)
      rename_i i c cs' hi
      simp only [Bool.and_eq_true, Nat.beq_eq] at h
      obtain ⟨h1, h2, h3, h4⟩ := h
      have he := beqs_eq _ _ h2
      generalize hcs : c :: cs' = cs at *
      subst he
      unfold eqA
      simp only [hu, encA, beqD, hi, h1]
      rw [List.range_eq_range']
      exact eqI_keys h3 (eqA_keys d D e c (by omega) h4) n 0 [] [] (by simp) (by simp) x y

theorem run_equal_data {σ : Env} {t : TypeId} {c : TC} (h : keyT P 8 t c = true) {x y : TCT c} {u v : Value} (hx : VR σ.mem c x u) (hy : VR σ.mem c y v) (w : World) : (Op.equal t u v).run P w = .ok (beqD c x y) w :=
  run_eqA 10000 t _ _ _ u v w (eqA_keys 8 10000 t c (by omega) h x y) hx.rep hy.rep

/-- a key can be hashed -/
theorem run_checkKey_data (em : Bool) : ∀ (d D : Nat) (t : TypeId) (c : TC), d ≤ D → keyT P d t c = true → ∀ (σ : Env) (x : TCT c) (v : Value) (w : World), Rep σ (encA c x) v → (Instr.checkKey em D t v).run P w = .ok () w
  | 0, _, _, _, _, h => by simp [keyT] at h
  | d + 1, 0, _, _, hd, _ => by omega
  | d + 1, D + 1, t, c, hd, h => by
    intro σ x v w hv
    unfold keyT at h
    split at h <;> try (simp at h; done)
    · rename_i hu
      simp only [encA, Rep] at hv
      subst hv
      simp [Instr.checkKey, run_underlying hu]
    · rename_i k k' hu
      simp only [encA, Rep] at hv
      obtain ⟨rfl, _⟩ := hv
      simp [Instr.checkKey, run_underlying hu]
    · rename_i hu
      simp only [encA, Rep] at hv
      subst hv
      simp [Instr.checkKey, run_underlying hu]
    · rename_i fs cs hu
      simp only [Bool.and_eq_true, Bool.not_eq_true'] at h
      simp only [encA, Rep] at hv
      obtain ⟨vs, h1, rfl⟩ := hv
      unfold Instr.checkKey
      simp only [Sem.run_bind, run_underlying hu, Result.andThen_ok]
      rw [← Array.forIn_toList]
      have h2 := h.2
      clear hu h
      obtain ⟨pre, off, hpre, hoff, e⟩ : ∃ (pre : List AV) (off : Nat), pre.length = off ∧ off = 0 ∧ RepL σ (pre ++ encs cs x) vs := ⟨[], 0, rfl, rfl, h1⟩
      rw [← hoff] at h2
      clear hoff h1
      revert h2
      generalize fs.toList = l
      intro h2
      induction l generalizing cs off pre with
      | nil => simp
      | cons f l ih =>
        cases cs with
        | nil => simp [keyF] at h2
        | cons c cs =>
          simp only [keyF, Bool.and_eq_true, Bool.not_eq_true', decide_eq_false_iff_not, Nat.beq_eq] at h2
          obtain ⟨k1, k2, k3, k4, k5⟩ := h2
          obtain ⟨x, xs⟩ := x
          have e1 := part_enc k3 pre (encs cs xs) x
          rw [hpre, ← k2] at e1
          obtain ⟨a, p1, p2⟩ := run_part e e1 w
          have p3 := run_checkKey_data em d D f.type c (by omega) k4 σ x a w p2
          simp only [List.forIn_cons, Sem.run_bind, k1, ne_eq, not_false_eq_true, if_true, Result.andThen_ok, p1, p3, Sem.run_pure]
          exact ih cs xs (pre ++ enc c x) (off + c.size) (by rw [List.length_append, enc_len, hpre]) (by simpa [encs] using e) k5
    · rename_i n e cs hu
      split at h <;> try (simp at h; done)
      rename_i i c cs' hi
      simp only [Bool.and_eq_true, Nat.beq_eq] at h
      obtain ⟨g1, g2, g3, g4⟩ := h
      have he := beqs_eq _ _ g2
      generalize hcs : c :: cs' = cs at *
      subst he
      simp only [encA, Rep] at hv
      obtain ⟨vs, h1, rfl⟩ := hv
      unfold Instr.checkKey
      simp only [Sem.run_bind, run_underlying hu, Result.andThen_ok]
      simp only [Std.Legacy.Range.forIn_eq_forIn_range', Std.Legacy.Range.size, Nat.sub_zero, Nat.add_one_sub_one, Nat.div_one]
      have hsz : sizeT P e = some c.size := by simp [sizeT, hi, g1]
      clear hu g2 hcs
      obtain ⟨pre, k, hpre, hk, e1⟩ : ∃ (pre : List AV) (k : Nat), pre.length = k * c.size ∧ k = 0 ∧ RepL σ (pre ++ encs (List.replicate n c) x) vs := ⟨[], 0, by simp, rfl, h1⟩
      rw [show (0 : Nat) = k from hk.symm]
      clear hk h1
      induction n generalizing k pre with
      | zero => simp
      | succ n ih =>
        obtain ⟨x, xs⟩ := x
        simp only [List.replicate_succ, encs] at e1
        have e2 := part_enc g3 pre (encs (List.replicate n c) xs) x
        rw [hpre] at e2
        obtain ⟨a, p1, p2⟩ := run_part e1 e2 w
        have p3 := run_checkKey_data em d D e c (by omega) g4 σ x a w p2
        simp only [List.range'_succ, List.forIn_cons, Sem.run_bind, run_size hsz w, Result.andThen_ok, p1, p3, Sem.run_pure]
        exact ih xs (pre ++ enc c x) (k + 1) (by rw [List.length_append, enc_len, hpre, Nat.add_mul, Nat.one_mul]) (by simpa using e1)

/-! entries -/
/-- entries that stand for a list of keys and values -/
def EntL (mem : Nat → Nat → Option Value) (kc vc : TC) : List (TCT kc × TCT vc) → List MapEntry → Prop
  | [], es => es = []
  | p :: l, es => ∃ e es', es = e :: es' ∧ VR mem kc p.1 e.key ∧ VR mem vc p.2 e.val ∧ EntL mem kc vc l es'
theorem VR.mono {m m' : Nat → Nat → Option Value} (h : ∀ b o v, m b o = some v → m' b o = some v) {c : TC} {x : TCT c} {v : Value} (k : VR m c x v) : VR m' c x v := ⟨RepD.mono h c x _ k.d, k.a, k.o⟩
theorem EntL.mono {m m' : Nat → Nat → Option Value} (h : ∀ b o v, m b o = some v → m' b o = some v) {kc vc : TC} : ∀ {l : List (TCT kc × TCT vc)} {es : List MapEntry}, EntL m kc vc l es → EntL m' kc vc l es
  | [], _, k => k
  | _ :: _, _, ⟨e, es', h1, h2, h3, h4⟩ => ⟨e, es', h1, h2.mono h, h3.mono h, EntL.mono h h4⟩
theorem EntL.len {m : Nat → Nat → Option Value} {kc vc : TC} : ∀ {l : List (TCT kc × TCT vc)} {es : List MapEntry}, EntL m kc vc l es → l.length = es.length
  | [], _, k => by simp only [EntL] at k; simp [k]
  | _ :: _, _, ⟨e, es', h1, _, _, h4⟩ => by subst h1; simp [EntL.len h4]
theorem EntL.get {m : Nat → Nat → Option Value} {kc vc : TC} : ∀ {l : List (TCT kc × TCT vc)} {es : List MapEntry} (_ : EntL m kc vc l es) {i : Nat} {p : TCT kc × TCT vc}, l[i]? = some p → ∃ e, es[i]? = some e ∧ VR m kc p.1 e.key ∧ VR m vc p.2 e.val
  | [], _, _, _, _, hp => by simp at hp
  | _ :: _, _, ⟨e, es', h1, h2, h3, h4⟩, i, p, hp => by
    subst h1
    cases i with
    | zero => simp only [List.getElem?_cons_zero, Option.some.injEq] at hp; subst hp; exact ⟨e, rfl, h2, h3⟩
    | succ i => simp only [List.getElem?_cons_succ] at hp ⊢; exact EntL.get h4 hp
theorem EntL.modify {m : Nat → Nat → Option Value} {kc vc : TC} {p : TCT kc × TCT vc} {f : MapEntry → MapEntry} : ∀ {l : List (TCT kc × TCT vc)} {es : List MapEntry} (i : Nat) (_ : EntL m kc vc l es) (_ : ∀ e, es[i]? = some e → VR m kc p.1 (f e).key ∧ VR m vc p.2 (f e).val), EntL m kc vc (l.modify i fun _ => p) (es.modify i f)
  | [], es, i, h, _ => by simp only [EntL] at h; subst h; cases i <;> simp [EntL]
  | q :: l, es, i, ⟨e, es', h1, h2, h3, h4⟩, hf => by
    subst h1
    cases i with
    | zero => simp only [List.modify_zero_cons]; exact ⟨_, _, rfl, (hf e rfl).1, (hf e rfl).2, h4⟩
    | succ i => simp only [List.modify_succ_cons]; exact ⟨_, _, rfl, h2, h3, EntL.modify i h4 hf⟩
theorem EntL.push {m : Nat → Nat → Option Value} {kc vc : TC} {p : TCT kc × TCT vc} {e : MapEntry} (h1 : VR m kc p.1 e.key) (h2 : VR m vc p.2 e.val) : ∀ {l : List (TCT kc × TCT vc)} {es : List MapEntry}, EntL m kc vc l es → EntL m kc vc (l ++ [p]) (es ++ [e])
  | [], _, h => by simp only [EntL] at h; subst h; exact ⟨e, [], rfl, h1, h2, rfl⟩
  | _ :: _, _, ⟨e', es', k1, k2, k3, k4⟩ => by subst k1; exact ⟨e', _, rfl, k2, k3, EntL.push h1 h2 k4⟩
theorem EntL.erase {m : Nat → Nat → Option Value} {kc vc : TC} : ∀ {l : List (TCT kc × TCT vc)} {es : List MapEntry} (i : Nat), EntL m kc vc l es → EntL m kc vc (l.eraseIdx i) (es.eraseIdx i)
  | [], _, i, h => by simp only [EntL] at h; subst h; simp [EntL]
  | _ :: _, _, i, ⟨e', es', k1, k2, k3, k4⟩ => by
    subst k1
    cases i with
    | zero => simpa using k4
    | succ i => simp only [List.eraseIdx_cons_succ]; exact ⟨e', _, rfl, k2, k3, EntL.erase i k4⟩

/-- the first entry of a key -/
def findL (kc vc : TC) (k : TCT kc) : List (TCT kc × TCT vc) → Nat → Option (Nat × TCT vc)
  | [], _ => none
  | p :: l, i => bif beqD kc k p.1 then some (i, p.2) else findL kc vc k l (i + 1)
def FindRel (mem : Nat → Nat → Option Value) (vc : TC) : Option (Nat × Value) → Option (Nat × TCT vc) → Prop
  | none, none => True
  | some (i, v), some (j, x) => i = j ∧ VR mem vc x v
  | _, _ => False
theorem sameNow_data {σ : Env} {t : TypeId} {c : TC} (h : keyT P 8 t c = true) {d : TypeDesc} (hd : P.underlying t = some d) {x y : TCT c} {u v : Value} (hx : VR σ.mem c x u) (hy : VR σ.mem c y v) {p : Bool} (hp : Instr.sameNow d u v = some p) : p = beqD c x y := by
  have := run_equal_data h hx hy (default : World)
  unfold Instr.sameNow at hp
  split at hp <;> try (simp at hp; done)
  · rename_i k a k' b
    split at hp <;> try (simp at hp; done)
    rename_i hk
    subst hk
    simp only [Option.some.injEq] at hp
    rw [← hp]
    simp only [Op.equal, Op.maxDepth, run_equalIn_int (P := P) default 9999 t k _ _ _ hd, Result.ok.injEq, and_true] at this
    exact this
  · rename_i a b
    simp only [Option.some.injEq] at hp
    rw [← hp]
    have e : ∀ d : Nat, (Op.equalIn (d + 1) t (.string a) (.string b)).run P default = .ok (a == b) default := fun d => by simp [Op.equalIn, run_underlying hd]
    simp only [Op.equal, Op.maxDepth, e 9999, Result.ok.injEq, and_true] at this
    exact this
  · rename_i a b
    simp only [Option.some.injEq] at hp
    rw [← hp]
    simp only [Op.equal, Op.maxDepth, run_equalIn_bool' (P := P) default 9999 t _ _ hd, Result.ok.injEq, and_true] at this
    exact this

theorem findNow_data {σ : Env} {t : TypeId} {kc vc : TC} (h : keyT P 8 t kc = true) {d : TypeDesc} (hd : P.underlying t = some d) {k : TCT kc} {key : Value} (hk : VR σ.mem kc k key) : ∀ (l : List (TCT kc × TCT vc)) (es : List MapEntry) (i : Nat) (r : Option (Nat × Value)), EntL σ.mem kc vc l es → Instr.findNow d key es i = some r → FindRel σ.mem vc r (findL kc vc k l i)
  | [], es, i, r, he, hr => by
    simp only [EntL] at he
    subst he
    simp only [Instr.findNow, Option.some.injEq] at hr
    subst hr
    simp [findL, FindRel]
  | p :: l, es, i, r, ⟨e, es', h1, h2, h3, h4⟩, hr => by
    subst h1
    simp only [Instr.findNow] at hr
    split at hr
    · rename_i hs
      have := sameNow_data h hd hk h2 hs
      simp only [Option.some.injEq] at hr
      subst hr
      simp only [findL, ← this, cond_true]
      exact ⟨rfl, h3⟩
    · rename_i hs
      have := sameNow_data h hd hk h2 hs
      simp only [findL, ← this, cond_false]
      exact findNow_data h hd hk l es' (i + 1) r h4 hr
    · simp at hr
theorem findAsking_data {σ : Env} {t : TypeId} {kc vc : TC} (h : keyT P 8 t kc = true) {k : TCT kc} {key : Value} (hk : VR σ.mem kc k key) (w : World) : ∀ (l : List (TCT kc × TCT vc)) (es : List MapEntry) (i : Nat), EntL σ.mem kc vc l es → ∃ r, (Instr.findAsking t key es i).run P w = .ok r w ∧ FindRel σ.mem vc r (findL kc vc k l i)
  | [], es, i, he => by
    simp only [EntL] at he
    subst he
    exact ⟨none, by simp [Instr.findAsking], by simp [findL, FindRel]⟩
  | p :: l, es, i, ⟨e, es', h1, h2, h3, h4⟩ => by
    subst h1
    have hq := run_equal_data h hk h2 w
    cases hb : beqD kc k p.1 with
    | true =>
      rw [hb] at hq
      exact ⟨some (i, e.val), by simp [Instr.findAsking, hq], by simp only [findL, hb, cond_true]; exact ⟨rfl, h3⟩⟩
    | false =>
      rw [hb] at hq
      obtain ⟨r, k1, k2⟩ := findAsking_data h hk w l es' (i + 1) h4
      exact ⟨r, by simp [Instr.findAsking, hq, k1], by simp only [findL, hb, cond_false]; exact k2⟩
theorem run_findKey_data {σ : Env} {t : TypeId} {kc vc : TC} (h : keyT P 8 t kc = true) {k : TCT kc} {key : Value} (hk : VR σ.mem kc k key) (w : World) {l : List (TCT kc × TCT vc)} {es : List MapEntry} (he : EntL σ.mem kc vc l es) : ∃ r, (Instr.findKey t key es).run P w = .ok r w ∧ FindRel σ.mem vc r (findL kc vc k l 0) := by
  cases hu : P.underlying t with
  | none => unfold keyT at h; simp [hu] at h
  | some d =>
    cases hn : Instr.findNow d key es 0 with
    | some r => exact ⟨r, by simp [Instr.findKey, run_underlying hu, hn], findNow_data h hu hk l es 0 r he hn⟩
    | none =>
      obtain ⟨r, k1, k2⟩ := findAsking_data h hk w l es 0 he
      exact ⟨r, by simp [Instr.findKey, run_underlying hu, hn, k1], k2⟩
end

/-! a key's value is that of its data alone -/
mutual
def ofD : (c : TC) → TCT c → List Value
  | .b, x => [.bool x]
  | .i k, n => [.int k n]
  | .s, x => [.string x]
  | .sl _, _ => []
  | .st cs, x => ofDs cs x
def ofDs : (cs : List TC) → TCTs cs → List Value
  | [], _ => []
  | c :: cs, x => ofD c x.1 ++ ofDs cs x.2
end
mutual
theorem repD_ofD {m : Nat → Nat → Option Value} : ∀ (c : TC) (x : TCT c) (vs : List Value), keyC c = true → RepD m c x vs → vs = ofD c x
  | .b, _, _, _, h => by simpa only [RepD, ofD] using h
  | .i _, _, _, _, h => by simp only [RepD, ofD] at h ⊢; exact h.1
  | .s, _, _, _, h => by simpa only [RepD, ofD] using h
  | .sl _, _, _, h, _ => by simp [keyC] at h
  | .st cs, x, vs, hk, h => by simp only [RepD, ofD] at h ⊢; exact repDs_ofD cs x vs (by simpa only [keyC] using hk) h
theorem repDs_ofD {m : Nat → Nat → Option Value} : ∀ (cs : List TC) (x : TCTs cs) (vs : List Value), keyCs cs = true → RepDs m cs x vs → vs = ofDs cs x
  | [], _, _, _, h => by simpa only [RepDs, ofDs] using h
  | c :: cs, x, vs, hk, h => by
    simp only [keyCs, Bool.and_eq_true] at hk
    simp only [RepDs, ofDs] at h ⊢
    obtain ⟨a, b, rfl, h1, h2⟩ := h
    rw [repD_ofD c x.1 a hk.1 h1, repDs_ofD cs x.2 b hk.2 h2]
end
mutual
theorem sameBits_ofD (n : Nat) : ∀ (c : TC) (x : TCT c), keyC c = true → ∀ v ∈ ofD c x, Instr.sameBits n v v = true
  | .b, _, _ => by simp [ofD, Instr.sameBits]
  | .i _, _, _ => by simp [ofD, Instr.sameBits]
  | .s, _, _ => by simp [ofD, Instr.sameBits, bytes_beq]
  | .sl _, _, h => by simp [keyC] at h
  | .st cs, x, h => by simp only [ofD]; exact sameBits_ofDs n cs x (by simpa only [keyC] using h)
theorem sameBits_ofDs (n : Nat) : ∀ (cs : List TC) (x : TCTs cs), keyCs cs = true → ∀ v ∈ ofDs cs x, Instr.sameBits n v v = true
  | [], _, _ => by simp [ofDs]
  | c :: cs, x, h => by
    simp only [keyCs, Bool.and_eq_true] at h
    intro v hv
    simp only [ofDs, List.mem_append] at hv
    rcases hv with hv | hv
    · exact sameBits_ofD n c x.1 h.1 v hv
    · exact sameBits_ofDs n cs x.2 h.2 v hv
end
theorem VR.uniq {m m' : Nat → Nat → Option Value} {c : TC} {x : TCT c} {u v : Value} (hc : keyC c = true) (h : VR m c x u) (k : VR m' c x v) : u = v := by
  have e : u.cells.toList = v.cells.toList := (repD_ofD c x _ hc h.d).trans (repD_ofD c x _ hc k.d).symm
  by_cases hs : ∃ cs, c = .st cs
  · obtain ⟨us, rfl⟩ := h.a hs
    obtain ⟨vs, rfl⟩ := k.a hs
    simp only [Value.cells] at e
    rw [Array.toList_inj.1 e]
  · have hs' : ∀ cs, c ≠ .st cs := fun cs he => hs ⟨cs, he⟩
    rw [one_cells (h.o hs'), one_cells (k.o hs')] at e
    simpa using e
theorem VR.bits {m : Nat → Nat → Option Value} {c : TC} {x : TCT c} {v : Value} (hc : keyC c = true) (h : VR m c x v) (n : Nat) : Instr.sameBits (n + 1) v v = true := by
  have e := repD_ofD c x _ hc h.d
  by_cases hs : ∃ cs, c = .st cs
  · obtain ⟨vs, rfl⟩ := h.a hs
    simp only [Value.cells] at e
    simp only [Instr.sameBits, beq_self_eq_true, Bool.true_and, List.all_eq_true]
    intro p hp
    have hz : ∀ (l : List Value), ∀ p ∈ l.zip l, p.1 = p.2 ∧ p.1 ∈ l := by
      intro l
      induction l with
      | nil => simp
      | cons a l ih =>
        intro p hp
        simp only [List.zip_cons_cons, List.mem_cons] at hp
        rcases hp with rfl | hp
        · simp
        · have := ih p hp; exact ⟨this.1, List.mem_cons_of_mem _ this.2⟩
    obtain ⟨h1, h2⟩ := hz _ p hp
    have := sameBits_ofD n c x hc p.1 (by rw [← e]; exact h2)
    obtain ⟨p1, p2⟩ := p
    simp only at h1 this ⊢
    rw [← h1]; exact this
  · have hs' : ∀ cs, c ≠ .st cs := fun cs he => hs ⟨cs, he⟩
    rw [one_cells (h.o hs')] at e
    exact sameBits_ofD (n + 1) c x hc v (by rw [← e]; simp)
theorem run_keyThatStays_data {P : Program} {m m' : Nat → Nat → Option Value} {c : TC} {x : TCT c} {u v : Value} (hc : keyC c = true) (h : VR m c x u) (k : VR m' c x v) (w : World) : (Instr.keyThatStays u v).run P w = .ok v w := by
  have e := h.uniq hc k
  subst e
  simp [Instr.keyThatStays, h.bits hc 9999]

/-! what a list of entries says of a key -/
section
variable {kc vc : TC}
theorem findL_some {k : TCT kc} (hc : keyC kc = true) : ∀ (l : List (TCT kc × TCT vc)) (i j : Nat) (x : TCT vc), findL kc vc k l i = some (j, x) → i ≤ j ∧ l[j - i]? = some (k, x)
  | [], _, _, _, h => by simp [findL] at h
  | p :: l, i, j, x, h => by
    simp only [findL] at h
    cases hb : beqD kc k p.1 with
    | true =>
      rw [hb, cond_true] at h
      simp only [Option.some.injEq, Prod.mk.injEq] at h
      obtain ⟨rfl, rfl⟩ := h
      have := (beqD_iff kc k p.1 hc).1 hb
      subst this
      simp
    | false =>
      rw [hb, cond_false] at h
      obtain ⟨h1, h2⟩ := findL_some hc l (i + 1) j x h
      refine ⟨by omega, ?_⟩
      have : j - i = (j - (i + 1)) + 1 := by omega
      rw [this, List.getElem?_cons_succ]
      exact h2
theorem findL_none {k : TCT kc} (hc : keyC kc = true) : ∀ (l : List (TCT kc × TCT vc)) (i : Nat), findL kc vc k l i = none → ∀ p ∈ l, p.1 ≠ k
  | [], _, _ => by simp
  | p :: l, i, h => by
    simp only [findL] at h
    cases hb : beqD kc k p.1 with
    | true => rw [hb, cond_true] at h; cases h
    | false =>
      rw [hb, cond_false] at h
      intro q hq
      rcases List.mem_cons.1 hq with rfl | hq
      · intro e
        rw [(beqD_iff kc k q.1 hc).2 e.symm] at hb
        cases hb
      · exact findL_none hc l (i + 1) h q hq
theorem findL_mem {k : TCT kc} {x : TCT vc} (hc : keyC kc = true) {l : List (TCT kc × TCT vc)} (hp : l.Pairwise (fun p q => p.1 ≠ q.1)) (i : Nat) : (findL kc vc k l i).map (·.2) = some x ↔ (k, x) ∈ l := by
  constructor
  · intro h
    cases hf : findL kc vc k l i with
    | none => rw [hf] at h; cases h
    | some y =>
      obtain ⟨j, y⟩ := y
      rw [hf] at h
      simp only [Option.map_some, Option.some.injEq] at h
      subst h
      exact List.mem_of_getElem? (findL_some hc l i j y hf).2
  · intro h
    cases hf : findL kc vc k l i with
    | none => exact absurd rfl (findL_none hc l i hf _ h)
    | some y =>
      obtain ⟨j, y⟩ := y
      have h2 := (findL_some hc l i j y hf).2
      simp only [Option.map_some, Option.some.injEq]
      obtain ⟨a, ha⟩ := List.getElem?_of_mem h
      have := key_index hp ha h2 rfl
      rw [this, h2] at ha
      simpa using ha
where
  key_index {l : List (TCT kc × TCT vc)} (hp : l.Pairwise (fun p q => p.1 ≠ q.1)) {a b : Nat} {p q : TCT kc × TCT vc} (ha : l[a]? = some p) (hb : l[b]? = some q) (he : p.1 = q.1) : a = b := by
    obtain ⟨h1, h2⟩ := List.getElem?_eq_some_iff.1 ha
    obtain ⟨h3, h4⟩ := List.getElem?_eq_some_iff.1 hb
    rcases Nat.lt_trichotomy a b with k | k | k
    · exact absurd he (by rw [← h2, ← h4]; exact List.pairwise_iff_getElem.1 hp a b h1 h3 k)
    · exact k
    · exact absurd he.symm (by rw [← h2, ← h4]; exact List.pairwise_iff_getElem.1 hp b a h3 h1 k)
theorem opt_ext {β : Type} {a b : Option β} (h : ∀ x, a = some x ↔ b = some x) : a = b := by
  cases a with
  | none => cases b with
    | none => rfl
    | some y => exact ((h y).2 rfl)
  | some x => exact ((h x).1 rfl).symm
theorem getElem?_mod {β : Type} (l : List β) (j i : Nat) (y : β) : (l.modify j fun _ => y)[i]? = if i = j then (l[i]?).map (fun _ => y) else l[i]? := by
  rw [List.getElem?_modify]
  by_cases h : j = i
  · subst h; simp
  · have h' : ¬ i = j := fun e => h e.symm
    simp [h, h']
theorem pair_mod {l : List (TCT kc × TCT vc)} (hp : l.Pairwise (fun p q => p.1 ≠ q.1)) {j : Nat} {k : TCT kc} {x y : TCT vc} (hj : l[j]? = some (k, x)) : (l.modify j fun _ => (k, y)).Pairwise (fun p q => p.1 ≠ q.1) := by
  rw [List.pairwise_iff_getElem]
  intro a b ha hb hab
  have key : ∀ (c : Nat) (h : c < (l.modify j fun _ => (k, y)).length), ∃ h' : c < l.length, ((l.modify j fun _ => (k, y))[c]).1 = (l[c]).1 := by
    intro c h
    have h' : c < l.length := by simpa using h
    refine ⟨h', ?_⟩
    have e := getElem?_mod l j c (k, y)
    rw [List.getElem?_eq_getElem h, List.getElem?_eq_getElem h'] at e
    by_cases hcj : c = j
    · subst hcj
      rw [if_pos rfl] at e
      simp only [Option.map_some, Option.some.injEq] at e
      rw [e]
      rw [List.getElem?_eq_getElem h'] at hj
      simp only [Option.some.injEq] at hj
      rw [hj]
    · rw [if_neg hcj] at e
      simp only [Option.some.injEq] at e
      rw [e]
  obtain ⟨a', ea⟩ := key a ha
  obtain ⟨b', eb⟩ := key b hb
  rw [ea, eb]
  exact List.pairwise_iff_getElem.1 hp a b a' b' hab
theorem look_mod (hc : keyC kc = true) {l : List (TCT kc × TCT vc)} (hp : l.Pairwise (fun p q => p.1 ≠ q.1)) {j : Nat} {k : TCT kc} {x y : TCT vc} (hj : l[j]? = some (k, x)) (k' : TCT kc) :
    (findL kc vc k' (l.modify j fun _ => (k, y)) 0).map (·.2) = bif beqD kc k' k then some y else (findL kc vc k' l 0).map (·.2) := by
  have hp' := pair_mod hp (y := y) hj
  have hlt := (List.getElem?_eq_some_iff.1 hj).1
  cases hb : beqD kc k' k with
  | true =>
    have := (beqD_iff kc k' k hc).1 hb
    subst this
    rw [cond_true, findL_mem hc hp']
    refine List.mem_of_getElem? (i := j) ?_
    rw [getElem?_mod, if_pos rfl, hj]; rfl
  | false =>
    rw [cond_false]
    have hne : k' ≠ k := fun e => by rw [(beqD_iff kc k' k hc).2 e] at hb; cases hb
    refine opt_ext fun z => ?_
    rw [findL_mem hc hp', findL_mem hc hp]
    constructor
    · intro h
      obtain ⟨a, ha⟩ := List.getElem?_of_mem h
      rw [getElem?_mod] at ha
      by_cases haj : a = j
      · subst haj
        rw [if_pos rfl, hj] at ha
        simp only [Option.map_some, Option.some.injEq, Prod.mk.injEq] at ha
        exact absurd ha.1.symm hne
      · rw [if_neg haj] at ha
        exact List.mem_of_getElem? ha
    · intro h
      obtain ⟨a, ha⟩ := List.getElem?_of_mem h
      have haj : a ≠ j := fun e => by
        subst e
        rw [hj] at ha
        simp only [Option.some.injEq, Prod.mk.injEq] at ha
        exact hne ha.1.symm
      refine List.mem_of_getElem? (i := a) ?_
      rw [getElem?_mod, if_neg haj]; exact ha
theorem pair_push {l : List (TCT kc × TCT vc)} (hp : l.Pairwise (fun p q => p.1 ≠ q.1)) {k : TCT kc} {x : TCT vc} (hn : ∀ p ∈ l, p.1 ≠ k) : (l ++ [(k, x)]).Pairwise (fun p q => p.1 ≠ q.1) := by
  rw [List.pairwise_append]
  exact ⟨hp, List.pairwise_singleton _ _, fun a ha b hb => by rw [List.mem_singleton.1 hb]; exact hn a ha⟩
theorem look_push (hc : keyC kc = true) {l : List (TCT kc × TCT vc)} (hp : l.Pairwise (fun p q => p.1 ≠ q.1)) {k : TCT kc} {x : TCT vc} (hn : ∀ p ∈ l, p.1 ≠ k) (k' : TCT kc) :
    (findL kc vc k' (l ++ [(k, x)]) 0).map (·.2) = bif beqD kc k' k then some x else (findL kc vc k' l 0).map (·.2) := by
  have hp' := pair_push hp (x := x) hn
  cases hb : beqD kc k' k with
  | true =>
    have := (beqD_iff kc k' k hc).1 hb
    subst this
    rw [cond_true, findL_mem hc hp']
    simp
  | false =>
    rw [cond_false]
    have hne : k' ≠ k := fun e => by rw [(beqD_iff kc k' k hc).2 e] at hb; cases hb
    refine opt_ext fun z => ?_
    rw [findL_mem hc hp', findL_mem hc hp]
    simp [hne]
theorem look_erase (hc : keyC kc = true) {l : List (TCT kc × TCT vc)} (hp : l.Pairwise (fun p q => p.1 ≠ q.1)) {j : Nat} {k : TCT kc} {x : TCT vc} (hj : l[j]? = some (k, x)) (k' : TCT kc) :
    (findL kc vc k' (l.eraseIdx j) 0).map (·.2) = bif beqD kc k' k then none else (findL kc vc k' l 0).map (·.2) := by
  have hp' : (l.eraseIdx j).Pairwise (fun p q => p.1 ≠ q.1) := hp.sublist (List.eraseIdx_sublist l j)
  have hmem : ∀ z, (k', z) ∈ l.eraseIdx j ↔ k' ≠ k ∧ (k', z) ∈ l := by
    intro z
    rw [List.mem_eraseIdx_iff_getElem?]
    constructor
    · rintro ⟨a, ha, hz⟩
      refine ⟨fun e => ?_, List.mem_of_getElem? hz⟩
      exact ha (findL_mem.key_index hp hz hj e)
    · rintro ⟨hne, hz⟩
      obtain ⟨a, ha⟩ := List.getElem?_of_mem hz
      refine ⟨a, fun e => ?_, ha⟩
      subst e
      rw [hj] at ha
      simp only [Option.some.injEq, Prod.mk.injEq] at ha
      exact hne ha.1.symm
  refine opt_ext fun z => ?_
  rw [findL_mem hc hp', hmem]
  cases hb : beqD kc k' k with
  | true =>
    have := (beqD_iff kc k' k hc).1 hb
    simp [this]
  | false =>
    rw [cond_false, findL_mem hc hp]
    have hne : k' ≠ k := fun e => by rw [(beqD_iff kc k' k hc).2 e] at hb; cases hb
    simp [hne]
end

/-- a map in memory, and what is known of it -/
def MapRel (mem : Nat → Nat → Option Value) (sv : Nat → Option Value) (M : Mp) (es : Array MapEntry) (clock : Nat) : Prop :=
  ∃ l : List (TCT M.kc × TCT M.vc), EntL mem M.kc M.vc l es.toList ∧ (∀ k, M.get k = (findL M.kc M.vc k l 0).map (·.2)) ∧ l.Pairwise (fun p q => p.1 ≠ q.1) ∧
    (∀ n ∈ es.toList.map (·.born), n < clock) ∧ (es.toList.map (·.born)).Nodup ∧ ∀ p ∈ M.ents, ∃ (i n : Nat), sv p.1 = some (.int .i64 (n : Int)) ∧ (es.toList.map (·.born))[i]? = some n ∧ (l.map (·.1))[i]? = some p.2
theorem MapRel.mono {m m' : Nat → Nat → Option Value} {sv sv' : Nat → Option Value} (h1 : ∀ b o v, m b o = some v → m' b o = some v) (h2 : ∀ i v, sv i = some v → sv' i = some v) {M : Mp} {es : Array MapEntry} {clock : Nat} (h : MapRel m sv M es clock) : MapRel m' sv' M es clock := by
  obtain ⟨l, k1, k2, k3, k4, k5, k6⟩ := h
  refine ⟨l, k1.mono h1, k2, k3, k4, k5, fun p hp => ?_⟩
  obtain ⟨i, n, e1, e2⟩ := k6 p hp
  exact ⟨i, n, h2 _ _ e1, e2⟩
theorem MapRel.nil (mem : Nat → Nat → Option Value) (sv : Nat → Option Value) (kc vc : TC) : MapRel mem sv ⟨kc, vc, fun _ => none, []⟩ #[] 0 :=
  ⟨[], rfl, fun _ => rfl, List.Pairwise.nil, by simp, by simp, by simp⟩
theorem MapRel.drop {m : Nat → Nat → Option Value} {sv sv' : Nat → Option Value} {kc vc : TC} {get : TCT kc → Option (TCT vc)} {ents : List (Nat × TCT kc)} {es : Array MapEntry} {clock : Nat} (h : MapRel m sv ⟨kc, vc, get, ents⟩ es clock) : MapRel m sv' ⟨kc, vc, get, []⟩ es clock := by
  obtain ⟨l, k1, k2, k3, k4, k5, _⟩ := h
  exact ⟨l, k1, k2, k3, k4, k5, by simp⟩
theorem map_modify {β γ : Type} (f : β → γ) (g : β → β) : ∀ (l : List β) (j : Nat), (∀ x, l[j]? = some x → f (g x) = f x) → (l.modify j g).map f = l.map f
  | [], j, _ => by simp
  | x :: l, 0, h => by simp [h x rfl]
  | x :: l, j + 1, h => by simp only [List.modify_succ_cons, List.map_cons]; rw [map_modify f g l j h]
theorem castL_one {c d : TC} {x : TCT c} {y : TCT d} (h : castL c d [x] = some [y]) : ∃ e : c = d, y = e ▸ x := by
  unfold castL at h
  split at h
  · rename_i hb
    have e := TC.beq_eq c d hb
    subst e
    simp only [Option.some.injEq, List.cons.injEq, and_true] at h
    exact ⟨rfl, h.symm⟩
  · cases h

section
variable {P : Program}
theorem run_getMap {w : World} {b : Nat} {es : Array MapEntry} {clock : Nat} (h : w.heap[b]? = some (.map es clock)) : (getObj b).run P w = .ok (.map es clock) w := by simp [getObj, Sem.run, h]
theorem run_setMap {w : World} {b : Nat} {es : Array MapEntry} {clock : Nat} (o : Obj) (h : w.heap[b]? = some (.map es clock)) : (setObj b o).run P w = .ok () (w.putObj b o) := by simp [setObj, Sem.run, h, World.putObj]

theorem lookup_data {σ : Env} {w : World} {M : Mp} {es : Array MapEntry} {clock b : Nat} {t kt vt : TypeId} {k : TCT M.kc} {z : TCT M.vc} {key zv : Value} (hb : w.heap[b]? = some (.map es clock)) (hM : MapRel σ.mem σ.sv M es clock) (ht : P.underlying t = some (.map kt vt)) (hk : keyT P 8 kt M.kc = true)
    (hz : (zeroValue vt).run P w = .ok zv w) (hzv : VR σ.mem M.vc z zv) (hkey : VR σ.mem M.kc k key) (ok : Bool) : ∃ v, VR σ.mem M.vc ((M.get k).getD z) v ∧ (Instr.lookup t (.map (some b)) key ok).run P w = .ok (if ok then .tuple #[v, .bool (M.get k).isSome] else v) w := by
  obtain ⟨l, k1, k2, k3, k4, k5, k6⟩ := hM
  obtain ⟨r, r1, r2⟩ := run_findKey_data hk hkey w k1
  have hch := run_checkKey_data (es.isEmpty) 8 10000 kt M.kc (by omega) hk σ k key w hkey.rep
  rw [k2]
  cases hf : findL M.kc M.vc k l 0 with
  | none =>
    rw [hf] at r2
    cases r with
    | some _ => exact r2.elim
    | none =>
      refine ⟨zv, hzv, ?_⟩
      simp [Instr.lookup, run_underlying ht, run_getMap hb, hch, r1, hz]
  | some y =>
    obtain ⟨j, y⟩ := y
    rw [hf] at r2
    cases r with
    | none => exact r2.elim
    | some v =>
      obtain ⟨i, v⟩ := v
      refine ⟨v, r2.2, ?_⟩
      simp [Instr.lookup, run_underlying ht, run_getMap hb, hch, r1]

theorem entry_of {σ : Env} {kc vc : TC} (hc : keyC kc = true) {k : TCT kc} {l : List (TCT kc × TCT vc)} {es : List MapEntry} (h : EntL σ.mem kc vc l es) {r : Option (Nat × Value)} (hr : FindRel σ.mem vc r (findL kc vc k l 0)) :
    (r = none ∧ findL kc vc k l 0 = none ∧ ∀ p ∈ l, p.1 ≠ k) ∨ ∃ j x v e, r = some (j, v) ∧ VR σ.mem vc x v ∧ findL kc vc k l 0 = some (j, x) ∧ l[j]? = some (k, x) ∧ es[j]? = some e ∧ VR σ.mem kc k e.key ∧ VR σ.mem vc x e.val := by
  cases hf : findL kc vc k l 0 with
  | none =>
    rw [hf] at hr
    cases r with
    | some _ => exact hr.elim
    | none => exact .inl ⟨rfl, rfl, findL_none hc l 0 hf⟩
  | some y =>
    obtain ⟨j, x⟩ := y
    rw [hf] at hr
    cases r with
    | none => exact hr.elim
    | some v =>
      obtain ⟨i, v⟩ := v
      have e1 : i = j := hr.1
      subst e1
      have hj := (findL_some hc l 0 i x hf).2
      simp only [Nat.sub_zero] at hj
      obtain ⟨e, k1, k2, k3⟩ := h.get hj
      exact .inr ⟨i, x, v, e, rfl, hr.2, rfl, hj, k1, k2, k3⟩

theorem mapSet_data {σ : Env} {w : World} {M : Mp} {es : Array MapEntry} {clock b : Nat} {t kt vt : TypeId} {k : TCT M.kc} {x : TCT M.vc} {key v : Value} (hb : w.heap[b]? = some (.map es clock)) (hM : MapRel σ.mem σ.sv M es clock) (ht : P.underlying t = some (.map kt vt)) (hk : keyT P 8 kt M.kc = true)
    (hv : VR σ.mem M.vc x v) (hkey : VR σ.mem M.kc k key) : ∃ es' clock', (Instr.mapUpdate t (.map (some b)) key v).run P w = .ok () (w.putObj b (.map es' clock')) ∧ MapRel σ.mem σ.sv ⟨M.kc, M.vc, fun j => bif beqD M.kc j k then some x else M.get j, M.ents⟩ es' clock' := by
  obtain ⟨l, k1, k2, k3, k4, k5, k6⟩ := hM
  obtain ⟨r, r1, r2⟩ := run_findKey_data hk hkey w k1
  have hch := run_checkKey_data false 8 10000 kt M.kc (by omega) hk σ k key w hkey.rep
  have hc := keyT_C 8 kt M.kc hk
  rcases entry_of hc k1 r2 with ⟨rfl, hf, hn⟩ | ⟨j, y, u, e, rfl, hu, hf, hj, he, hek, hev⟩
  · refine ⟨_, _, by simp [Instr.mapUpdate, run_underlying ht, run_getMap hb, hch, r1, run_setMap _ hb]; rfl, l ++ [(k, x)], ?_, fun k' => ?_, pair_push k3 hn, ?_, ?_, fun p hp => ?_⟩
    · simp only [Array.toList_push]
      exact EntL.push hkey hv k1
    · show (bif beqD M.kc k' k then some x else M.get k') = _
      rw [look_push hc k3 hn, k2]
    · intro n hn'
      simp only [Array.toList_push, List.map_append, List.map_cons, List.map_nil, List.mem_append, List.mem_singleton] at hn'
      rcases hn' with h | h
      · have := k4 n h; omega
      · omega
    · simp only [Array.toList_push, List.map_append, List.map_cons, List.map_nil]
      rw [List.nodup_append]
      refine ⟨k5, by simp, fun a ha c hc' => ?_⟩
      simp only [List.mem_singleton] at hc'
      have := k4 a ha
      omega
    · obtain ⟨i, n, e1, e2, e3⟩ := k6 p hp
      refine ⟨i, n, e1, ?_, ?_⟩
      · simp only [Array.toList_push, List.map_append]
        rw [List.getElem?_append_left (List.getElem?_eq_some_iff.1 e2).1]; exact e2
      · rw [List.map_append, List.getElem?_append_left (List.getElem?_eq_some_iff.1 e3).1]; exact e3
  · have hkt := run_keyThatStays_data (P := P) hc hek hkey w
    have he' : es[j]? = some e := by rw [← Array.getElem?_toList]; exact he
    have hborn : ((es.modify j fun e => { e with key, val := v }).toList.map (·.born)) = es.toList.map (·.born) := by
      rw [Array.toList_modify]
      exact map_modify _ _ _ _ fun _ _ => rfl
    have hkeys : ((l.modify j fun _ => (k, x)).map (·.1)) = l.map (·.1) := map_modify _ _ _ _ fun q hq => by rw [hj] at hq; cases hq; rfl
    refine ⟨es.modify j fun e => { e with key, val := v }, clock, by simp [Instr.mapUpdate, run_underlying ht, run_getMap hb, hch, r1, he', hkt, run_setMap _ hb], l.modify j fun _ => (k, x), ?_, fun k' => ?_, pair_mod k3 hj, ?_, ?_, fun p hp => ?_⟩
    · rw [Array.toList_modify]
      exact EntL.modify j k1 fun e' _ => ⟨hkey, hv⟩
    · show (bif beqD M.kc k' k then some x else M.get k') = _
      rw [look_mod hc k3 hj, k2]
    · rw [hborn]; exact k4
    · rw [hborn]; exact k5
    · rw [hborn, hkeys]; exact k6 p hp

theorem mapDel_data {σ : Env} {w : World} {M : Mp} {es : Array MapEntry} {clock b : Nat} {ts : Array TypeId} {ty t kt vt : TypeId} {k : TCT M.kc} {key : Value} (hb : w.heap[b]? = some (.map es clock)) (hM : MapRel σ.mem σ.sv M es clock) (hts : ts[0]? = some t) (ht : P.underlying t = some (.map kt vt)) (hk : keyT P 8 kt M.kc = true)
    (hkey : VR σ.mem M.kc k key) : ∃ es' clock', (Builtin.delete_ ts ty #[.map (some b), key]).run P w = .ok (.tuple #[]) (w.putObj b (.map es' clock')) ∧ MapRel σ.mem σ.sv ⟨M.kc, M.vc, fun j => bif beqD M.kc j k then none else M.get j, []⟩ es' clock' := by
  obtain ⟨l, k1, k2, k3, k4, k5, k6⟩ := hM
  obtain ⟨r, r1, r2⟩ := run_findKey_data hk hkey w k1
  have hch := run_checkKey_data es.isEmpty 8 10000 kt M.kc (by omega) hk σ k key w hkey.rep
  have hc := keyT_C 8 kt M.kc hk
  rcases entry_of hc k1 r2 with ⟨rfl, hf, hn⟩ | ⟨j, y, u, e, rfl, hu, hf, hj, he, hek, hev⟩
  · refine ⟨es, clock, by simp [Builtin.delete_, hts, run_underlying ht, run_getMap hb, hch, r1, run_setMap _ hb], l, k1, fun k' => ?_, k3, k4, k5, by simp⟩
    show (bif beqD M.kc k' k then none else M.get k') = _
    cases hbq : beqD M.kc k' k with
    | false => rw [cond_false, k2]
    | true =>
      rw [cond_true, (beqD_iff M.kc k' k hc).1 hbq, hf]; rfl
  · have hlt : j < es.size := by simpa using (List.getElem?_eq_some_iff.1 he).1
    have hers : (es.eraseIdxIfInBounds j).toList = es.toList.eraseIdx j := by
      unfold Array.eraseIdxIfInBounds
      rw [dif_pos hlt, Array.toList_eraseIdx]
    refine ⟨es.eraseIdxIfInBounds j, clock, by simp [Builtin.delete_, hts, run_underlying ht, run_getMap hb, hch, r1, run_setMap _ hb], l.eraseIdx j, ?_, fun k' => ?_, k3.sublist (List.eraseIdx_sublist l j), ?_, ?_, by simp⟩
    · rw [hers]; exact k1.erase j
    · show (bif beqD M.kc k' k then none else M.get k') = _
      rw [look_erase hc k3 hj, k2]
    · intro n hn
      rw [hers] at hn
      exact k4 n (((List.eraseIdx_sublist es.toList j).map _).subset hn)
    · rw [hers]; exact k5.sublist ((List.eraseIdx_sublist es.toList j).map _)

theorem mapClr_data {σ : Env} {w : World} {M : Mp} {es : Array MapEntry} {clock b : Nat} {ts : Array TypeId} {ty t kt vt : TypeId} (hb : w.heap[b]? = some (.map es clock)) (hts : ts[0]? = some t) (ht : P.underlying t = some (.map kt vt)) :
    (Builtin.clear_ ts ty #[.map (some b)]).run P w = .ok (.tuple #[]) (w.putObj b (.map #[] clock)) ∧ MapRel σ.mem σ.sv ⟨M.kc, M.vc, fun _ => none, []⟩ #[] clock := by
  refine ⟨by simp [Builtin.clear_, hts, run_underlying ht, run_getMap hb, run_setMap _ hb], [], ?_⟩
  exact ⟨rfl, fun _ => rfl, List.Pairwise.nil, by simp, by simp, by simp⟩

theorem mapEnt_data {σ : Env} {w : World} {M : Mp} {es : Array MapEntry} {clock b : Nat} {t kt vt : TypeId} {k : TCT M.kc} {z : TCT M.vc} {key zv : Value} (hb : w.heap[b]? = some (.map es clock)) (hM : MapRel σ.mem σ.sv M es clock) (ht : P.underlying t = some (.map kt vt)) (hk : keyT P 8 kt M.kc = true)
    (hz : (zeroValue vt).run P w = .ok zv w) (hzv : VR σ.mem M.vc z zv) (hkey : VR σ.mem M.kc k key) : ∃ (es' : Array MapEntry) (clock' n : Nat) (v : Value), VR σ.mem M.vc ((M.get k).getD z) v ∧ (Instr.mapEntry t (.map (some b)) key).run P w = .ok (.tuple #[v, .int .i64 (n : Int)]) (w.putObj b (.map es' clock')) ∧
      ∀ (nx : Nat) (sv' : Nat → Option Value), (∀ i v, σ.sv i = some v → sv' i = some v) → sv' nx = some (.int .i64 (n : Int)) → MapRel σ.mem sv' ⟨M.kc, M.vc, fun j => bif beqD M.kc j k then some ((M.get k).getD z) else M.get j, (nx, k) :: M.ents⟩ es' clock' := by
  obtain ⟨l, k1, k2, k3, k4, k5, k6⟩ := hM
  obtain ⟨r, r1, r2⟩ := run_findKey_data hk hkey w k1
  have hch := run_checkKey_data false 8 10000 kt M.kc (by omega) hk σ k key w hkey.rep
  have hc := keyT_C 8 kt M.kc hk
  rcases entry_of hc k1 r2 with ⟨rfl, hf, hn⟩ | ⟨j, y, u, e, rfl, hu, hf, hj, he, hek, hev⟩
  · have hg : (M.get k).getD z = z := by rw [k2, hf]; rfl
    refine ⟨es.push { key, val := zv, born := clock }, clock + 1, clock, zv, by rw [hg]; exact hzv, by simp [Instr.mapEntry, run_underlying ht, run_getMap hb, hch, r1, hz, run_setMap _ hb, goInt], fun nx sv' hs hnx => ⟨l ++ [(k, (M.get k).getD z)], ?_, fun k' => ?_, pair_push k3 hn, ?_, ?_, fun p hp => ?_⟩⟩
    · simp only [Array.toList_push]
      exact EntL.push hkey (by rw [hg]; exact hzv) k1
    · show (bif beqD M.kc k' k then some ((M.get k).getD z) else M.get k') = _
      rw [look_push hc k3 hn, k2 k']
    · intro n hn'
      simp only [Array.toList_push, List.map_append, List.map_cons, List.map_nil, List.mem_append, List.mem_singleton] at hn'
      rcases hn' with h | h
      · have := k4 n h; omega
      · omega
    · simp only [Array.toList_push, List.map_append, List.map_cons, List.map_nil]
      rw [List.nodup_append]
      refine ⟨k5, by simp, fun a ha c hc' => ?_⟩
      simp only [List.mem_singleton] at hc'
      have := k4 a ha
      omega
    · have hlen := k1.len
      rcases List.mem_cons.1 hp with rfl | hp
      · refine ⟨l.length, clock, hnx, ?_, ?_⟩
        · simp only [Array.toList_push, List.map_append, List.map_cons, List.map_nil]
          rw [List.getElem?_append_right (by simp [hlen])]
          simp [hlen]
        · rw [List.map_append, List.getElem?_append_right (by simp)]
          simp
      · obtain ⟨i, n, e1, e2, e3⟩ := k6 p hp
        refine ⟨i, n, hs _ _ e1, ?_, ?_⟩
        · simp only [Array.toList_push, List.map_append]
          rw [List.getElem?_append_left (List.getElem?_eq_some_iff.1 e2).1]; exact e2
        · rw [List.map_append, List.getElem?_append_left (List.getElem?_eq_some_iff.1 e3).1]; exact e3
  · have hkt := run_keyThatStays_data (P := P) hc hek hkey w
    have he' : es[j]? = some e := by rw [← Array.getElem?_toList]; exact he
    have hg : (M.get k).getD z = y := by rw [k2, hf]; rfl
    have hborn : ((es.modify j fun e => { e with key }).toList.map (·.born)) = es.toList.map (·.born) := by
      rw [Array.toList_modify]
      exact map_modify _ _ _ _ fun _ _ => rfl
    have hkeys : ((l.modify j fun _ => (k, (M.get k).getD z)).map (·.1)) = l.map (·.1) := map_modify _ _ _ _ fun q hq => by rw [hj] at hq; cases hq; rfl
    refine ⟨es.modify j fun e => { e with key }, clock, e.born, u, by rw [hg]; exact hu, by simp [Instr.mapEntry, run_underlying ht, run_getMap hb, hch, r1, he', hkt, run_setMap _ hb, goInt], fun nx sv' hs hnx => ⟨l.modify j fun _ => (k, (M.get k).getD z), ?_, fun k' => ?_, pair_mod k3 hj, ?_, ?_, fun p hp => ?_⟩⟩
    · rw [Array.toList_modify]
      refine EntL.modify j k1 fun e' he2 => ?_
      rw [he] at he2
      cases he2
      exact ⟨hkey, by rw [hg]; exact hev⟩
    · show (bif beqD M.kc k' k then some ((M.get k).getD z) else M.get k') = _
      rw [look_mod hc k3 hj, k2 k']
    · rw [hborn]; exact k4
    · rw [hborn]; exact k5
    · rw [hborn, hkeys]
      rcases List.mem_cons.1 hp with rfl | hp
      · refine ⟨j, e.born, hnx, ?_, ?_⟩
        · rw [List.getElem?_map, he]; rfl
        · rw [List.getElem?_map, hj]; rfl
      · obtain ⟨i, n, e1, e2, e3⟩ := k6 p hp
        exact ⟨i, n, hs _ _ e1, e2, e3⟩

theorem entSet_data {σ : Env} {w : World} {M : Mp} {es : Array MapEntry} {clock b st : Nat} {t : TypeId} {k : TCT M.kc} {x : TCT M.vc} {v : Value} {n : Int} (hc : keyC M.kc = true) (hb : w.heap[b]? = some (.map es clock)) (hM : MapRel σ.mem σ.sv M es clock) (hst : assoc M.ents st = some k) (hsv : σ.sv st = some (.int .i64 n))
    (hv : VR σ.mem M.vc x v) : ∃ es', (Instr.entryStore t (.map (some b)) (.int .i64 n) v).run P w = .ok () (w.putObj b (.map es' clock)) ∧ MapRel σ.mem σ.sv ⟨M.kc, M.vc, fun j => bif beqD M.kc j k then some x else M.get j, M.ents⟩ es' clock := by
  obtain ⟨l, k1, k2, k3, k4, k5, k6⟩ := hM
  have hmem : (st, k) ∈ M.ents := by
    generalize M.ents = en at hst
    induction en with
    | nil => simp [assoc] at hst
    | cons p en ih =>
      obtain ⟨i, q⟩ := p
      simp only [assoc] at hst
      cases hbq : Nat.beq i st with
      | true =>
        rw [hbq, cond_true] at hst
        have := Nat.eq_of_beq_eq_true hbq
        simp only [Option.some.injEq] at hst
        subst this; subst hst
        exact List.mem_cons_self
      | false => rw [hbq, cond_false] at hst; exact List.mem_cons_of_mem _ (ih hst)
  obtain ⟨i, m, e1, e2, e3⟩ := k6 _ hmem
  simp only at e1 e3
  rw [hsv] at e1
  simp only [Option.some.injEq, Value.int.injEq, true_and] at e1
  subst e1
  rw [List.getElem?_map, Option.map_eq_some_iff] at e2 e3
  obtain ⟨e, he, hen⟩ := e2
  obtain ⟨q, hq, hqk⟩ := e3
  obtain ⟨q1, q2⟩ := q
  simp only at hqk
  subst hqk
  have hlt : i < es.size := by simpa using (List.getElem?_eq_some_iff.1 he).1
  have hei : es[i] = e := by
    have := (List.getElem?_eq_some_iff.1 he).2
    simpa using this
  have hfind : es.findIdx? (fun e => (e.born : Int) == (m : Int)) = some i := by
    rw [Array.findIdx?_eq_some_iff_getElem]
    refine ⟨hlt, by simp [hei, hen], fun j hj => ?_⟩
    have hjl : j < es.size := by omega
    have hne : (es.toList.map (·.born))[j]'(by simp; omega) ≠ (es.toList.map (·.born))[i]'(by simp; omega) := List.pairwise_iff_getElem.1 k5 j i (by simp; omega) (by simp; omega) hj
    simp only [List.getElem_map, Array.getElem_toList, hei, hen] at hne
    simp only [beq_iff_eq]
    simpa using fun h : (es[j].born : Int) = m => hne (by omega)
  obtain ⟨e', k7, k8, k9⟩ := k1.get hq
  rw [he] at k7; cases k7
  have hborn : ((es.modify i fun e => { e with val := v }).toList.map (·.born)) = es.toList.map (·.born) := by
    rw [Array.toList_modify]
    exact map_modify _ _ _ _ fun _ _ => rfl
  have hkeys : ((l.modify i fun _ => (q1, x)).map (·.1)) = l.map (·.1) := map_modify _ _ _ _ fun p hp => by rw [hq] at hp; cases hp; rfl
  refine ⟨es.modify i fun e => { e with val := v }, by simp [Instr.entryStore, run_getMap hb, asInt, asIntOf, hfind, run_setMap _ hb], l.modify i fun _ => (q1, x), ?_, fun k' => ?_, pair_mod k3 hq, ?_, ?_, fun p hp => ?_⟩
  · rw [Array.toList_modify]
    refine EntL.modify i k1 fun e' he2 => ?_
    rw [he] at he2
    cases he2
    exact ⟨k8, hv⟩
  · show (bif beqD M.kc k' q1 then some x else M.get k') = _
    rw [look_mod hc k3 hq, k2]
  · rw [hborn]; exact k4
  · rw [hborn]; exact k5
  · rw [hborn, hkeys]; exact k6 p hp
end
end V
end Go.Proofs.Ytgchccljmjmibaa
