/- The arguments of a law, as data: whatever the law is handed, its numbers, strings, structs and slices are data in cells that stay. -/
import Derived.Test.YtmmhbianajpdgaaVl
import Derived.OpenShut
import Derived.Carry
namespace Go.Proofs.Ytmmhbianajpdgaa
open Go.RowKit Go.WideShapes Go.ChangeShapes
namespace V

def memW (W : World) (b o : Nat) : Option Value := W.cell? ⟨b, o, none⟩
theorem memW_ok (W : World) : MemOk (memW W) W := fun _ _ _ h => h

def laidF (P : Program) (ok : TypeId → Bool) : List Field → Nat → Option Nat
  | [], off => some off
  | f :: fs, off => bif Nat.beq f.offset off && ok f.type then laidF P ok fs (off + P.cellsOf f.type) else none
/-- a type's cells lie one after another -/
def flatOk (P : Program) : Nat → TypeId → Bool
  | 0, _ => false
  | d + 1, t => match P.underlying t with
    | some (.slice e) => flatOk P d e
    | some (.struct fs) => match laidF P (flatOk P d) fs.toList 0 with
      | some n => Nat.beq n (P.cellsOf t)
      | none => false
    | some (.array n e) => flatOk P d e && Nat.beq (n * P.cellsOf e) (P.cellsOf t)
    | _ => true

theorem wf_in {k : IntKind} {n : Int} (h : (Lit.int k n).wf = true) : inK k n := by
  cases k <;> simp [Lit.wf, IntKind.min, IntKind.max, IntKind.signed, IntKind.bits] at h <;> simp only [inK, minK, maxK] <;> omega

theorem mapM_some_cons {α β : Type} {f : α → Option β} {a : α} {l : List α} {r : List β} (h : (a :: l).mapM f = some r) : ∃ y ys, f a = some y ∧ l.mapM f = some ys ∧ r = y :: ys := by
  simp only [List.mapM_cons, Option.bind_eq_bind, Option.pure_def] at h
  cases h1 : f a with
  | none => simp [h1] at h
  | some y =>
    cases h2 : l.mapM f with
    | none => simp [h1, h2] at h
    | some ys => simp [h1, h2] at h; exact ⟨y, ys, rfl, rfl, h.symm⟩

section
variable {P : Program} {m : Nat → Nat → Option Value}
theorem laidF_le {ok : TypeId → Bool} : ∀ (fs : List Field) (off n : Nat), laidF P ok fs off = some n → off ≤ n
  | [], off, n, h => by simp only [laidF, Option.some.injEq] at h; omega
  | f :: fs, off, n, h => by
    simp only [laidF] at h
    cases hb : (Nat.beq f.offset off && ok f.type) with
    | false => rw [hb] at h; simp at h
    | true => rw [hb, cond_true] at h; have := laidF_le fs _ n h; omega
theorem fields_repD {d : Nat} {cs : List Value} {G : Field → Prop} (ih : ∀ (f : Field) (c : TC), tcOf P d f.type = some c → flatOk P d f.type = true → G f → ∃ y, RepD m c y ((cs.drop f.offset).take (P.cellsOf f.type))) :
    ∀ (fs : List Field) (off n : Nat) (codes : List TC), tcs (tcOf P d) fs = some codes → laidF P (flatOk P d) fs off = some n → (∀ f ∈ fs, G f) → n ≤ cs.length →
      ∃ y, RepDs m codes y ((cs.drop off).take (n - off))
  | [], off, n, codes, h, hl, _, _ => by
    simp only [tcs, Option.some.injEq] at h
    subst h
    simp only [laidF, Option.some.injEq] at hl
    subst hl
    exact ⟨(), by simp [RepDs]⟩
  | f :: fs, off, n, codes, h, hl, hG, hn => by
    simp only [tcs] at h
    split at h <;> try (simp at h; done)
    rename_i c cc h1 h2
    simp only [Option.some.injEq] at h
    subst h
    simp only [laidF] at hl
    cases hb : (Nat.beq f.offset off && flatOk P d f.type) with
    | false => rw [hb] at hl; simp at hl
    | true =>
      rw [hb, cond_true] at hl
      simp only [Bool.and_eq_true, Nat.beq_eq] at hb
      obtain ⟨y, hy⟩ := ih f c h1 hb.2 (hG f (by simp))
      obtain ⟨z, hz⟩ := fields_repD ih fs _ n cc h2 hl (fun g hg => hG g (by simp [hg])) hn
      have hle := laidF_le fs _ n hl
      refine ⟨(y, z), ?_⟩
      simp only [RepDs]
      rw [hb.1] at hy
      refine ⟨_, _, ?_, hy, hz⟩
      have e : n - off = P.cellsOf f.type + (n - (off + P.cellsOf f.type)) := by omega
      rw [e, List.take_add, List.drop_drop]
theorem items_repD {c : TC} {cs : List Value} {sz : Nat} : ∀ (n off : Nat), (∀ i, off ≤ i → i < off + n → ∃ y, RepD m c y ((cs.drop (i * sz)).take sz)) → (off + n) * sz ≤ cs.length → ∃ y, RepDs m (List.replicate n c) y ((cs.drop (off * sz)).take (n * sz))
  | 0, off, _, _ => ⟨(), by simp [RepDs]⟩
  | n + 1, off, h, hl => by
    obtain ⟨y, hy⟩ := h off (Nat.le_refl _) (by omega)
    obtain ⟨z, hz⟩ := items_repD n (off + 1) (fun i h1 h2 => h i (by omega) (by omega)) (by rw [Nat.add_assoc, Nat.add_comm 1 n]; exact hl)
    refine ⟨(y, z), ?_⟩
    show RepDs m (c :: List.replicate n c) (y, z) _
    simp only [RepDs]
    refine ⟨_, _, ?_, hy, hz⟩
    rw [Nat.add_mul n 1 sz, Nat.one_mul, Nat.add_comm (n * sz) sz, List.take_add, List.drop_drop, Nat.add_mul off 1 sz, Nat.one_mul]
end

theorem rows_repD {W : World} {c : TC} {a : Addr} {sz base : Nat} : ∀ (n : Nat), (∀ i, i < n → ∃ cs y, W.cells? base (a.add (i * sz)) sz = some cs ∧ RepD (memW W) c y cs) →
    ∃ (xs : List (TCT c)) (us : List Value), xs.length = n ∧ LR (RepD (memW W) c) xs us ∧ us.length = n * sz ∧ ((us = [] ∨ a.spot = none) ∧ Reads (memW W) a.block a.off us)
  | 0, _ => ⟨[], [], rfl, by simp [LR], by simp, .inl rfl, fun j u h => by simp at h⟩
  | n + 1, h => by
    obtain ⟨xs, us, h1, h2, h3, h4, h5⟩ := rows_repD n fun i hi => h i (by omega)
    obtain ⟨cs, y, k1, k2⟩ := h n (by omega)
    obtain ⟨_, hlen, hcell⟩ := World.cells?_some k1
    have hsp : ∀ j u, cs[j]? = some u → W.cell? ⟨a.block, a.off + (n * sz + j), none⟩ = some u ∧ (n * sz + j = 0 → a.spot = none) := by
      intro j u hj
      have hlt := (List.getElem?_eq_some_iff.1 hj).1
      have hc := hcell j (by omega)
      rw [hj] at hc
      obtain ⟨b, o, s⟩ := a
      rw [addr_add, addr_add] at hc
      have hnone : (if j = 0 then (if n * sz = 0 then s else none) else none) = none := by
        cases hs : (if j = 0 then (if n * sz = 0 then s else none) else none) with
        | none => rfl
        | some q =>
          rw [hs] at hc
          simp only [World.cell?] at hc
          split at hc <;> simp at hc
      rw [hnone, Nat.add_assoc] at hc
      refine ⟨hc, fun e => ?_⟩
      have e1 : n * sz = 0 := by omega
      have e2 : j = 0 := by omega
      rw [if_pos e2, if_pos e1] at hnone
      exact hnone
    refine ⟨xs ++ [y], us ++ cs, by simp [h1], h2.append (by simp only [LR]; exact ⟨cs, [], by simp, k2, rfl⟩), by simp [h3, hlen, Nat.add_mul], ?_, ?_⟩
    · rcases h4 with e | e
      · subst e
        cases cs with
        | nil => exact .inl rfl
        | cons u cs =>
          right
          exact (hsp 0 u rfl).2 (by simp at h3; omega)
      · exact .inr e
    · intro j u hj
      rcases Nat.lt_or_ge j us.length with hlt | hge
      · rw [List.getElem?_append_left hlt] at hj
        exact h5 j u hj
      · rw [List.getElem?_append_right hge] at hj
        have := (hsp _ u hj).1
        show W.cell? ⟨a.block, a.off + j, none⟩ = some u
        rw [← this]; congr 3; omega

section
variable {H : Type} {enc : TypeId × Value → H} {P : Program} {W : World} {base : Nat} {sp : Nat → Bool} {held : Bool}
theorem trod_repD : ∀ (d : Nat) (t : TypeId) (c : TC), tcOf P d t = some c → flatOk P d t = true → ∀ (fuel : Nat) (cs : List Value) (x : DataW H × List MemPlace), DataW.trod enc P W base sp held fuel t cs = some x → ∃ y, RepD (memW W) c y cs
  | 0, _, _, h, _, _, _, _, _ => by simp [tcOf] at h
  | d + 1, t, c, h, hf, fuel, cs, x, ht => by
    cases fuel with
    | zero => simp [DataW.trod] at ht
    | succ fuel =>
      simp only [tcOf] at h
      simp only [flatOk] at hf
      cases hu : P.underlying t with
      | none => simp [hu] at h
      | some desc =>
        unfold DataW.trod at ht
        cases desc <;> simp only [hu] at h hf ht <;> try (simp at h; done)
        case bool =>
          simp only [Option.some.injEq] at h; subst h
          split at ht <;> simp_all
          simp [RepD]
        case int k =>
          simp only [Option.some.injEq] at h; subst h
          split at ht <;> try (simp at ht; done)
          all_goals rename_i heq; try (simp at heq; done)
          have hkk := Option.some.inj heq
          injection hkk with hkk
          subst hkk
          split at ht <;> try (simp at ht; done)
          rename_i hk
          obtain ⟨rfl, hwf⟩ := hk
          exact ⟨_, by simp only [RepD]; exact ⟨rfl, wf_in hwf⟩⟩
        case string =>
          simp only [Option.some.injEq] at h; subst h
          split at ht <;> simp_all
          simp [RepD]
        case slice e =>
          cases hc : tcOf P d e with
          | none => simp [hc] at h
          | some c' =>
            simp only [hc, Option.map_some, Option.some.injEq] at h
            subst h
            have ih := trod_repD d e c' hc hf fuel
            split at ht <;> try (simp at ht; done)
            all_goals try (rename_i heq; simp at heq; done)
            · exact ⟨[], by simp [RepD]⟩
            · rename_i e' a len cap heq
              have hkk := Option.some.inj heq
              injection hkk with hkk
              subst hkk
              split at ht <;> try (simp at ht; done)
              rename_i hk
              obtain ⟨_, h2, h3⟩ := hk
              obtain ⟨elems, he, _⟩ := Option.bind_eq_some_iff.1 ht
              have hrows : ∀ i, i < len → ∃ cs y, W.cells? base (a.add (i * P.cellsOf e)) (P.cellsOf e) = some cs ∧ RepD (memW W) c' y cs := by
                intro i hi
                obtain ⟨z, hz⟩ := mapM_each he i (List.mem_range.2 hi)
                cases hcell : W.cells? base (a.add (i * P.cellsOf e)) (P.cellsOf e) with
                | none => simp [hcell] at hz
                | some cs =>
                  simp only [hcell, Option.bind_some] at hz
                  obtain ⟨y, hy⟩ := ih cs z hz
                  exact ⟨cs, y, rfl, hy⟩
              obtain ⟨xs, us, k1, k2, k3, k4⟩ := rows_repD len hrows
              refine ⟨xs, ?_⟩
              simp only [RepD]
              refine ⟨_, rfl, .inr ⟨a.block, a.off, a.spot, cap, us, by rw [k1], by omega, ?_, k4, k2⟩⟩
              simp only [maxLen] at h3
              simp only [maxK]
              omega
        case struct fs =>
          cases hc : tcs (tcOf P d) fs.toList with
          | none => simp [hc] at h
          | some codes =>
            simp only [hc, Option.map_some, Option.some.injEq] at h
            subst h
            cases hn : laidF P (flatOk P d) fs.toList 0 with
            | none => simp [hn] at hf
            | some n =>
              simp only [hn, Nat.beq_eq] at hf
              by_cases hl : cs.length = P.cellsOf t
              · rw [if_pos hl] at ht
                obtain ⟨ys, hys, _⟩ := Option.map_eq_some_iff.1 ht
                obtain ⟨y, hy⟩ := fields_repD (G := fun f => ∃ x, DataW.trod enc P W base sp held fuel f.type ((cs.drop f.offset).take (P.cellsOf f.type)) = some x) (fun f c h1 h2 ⟨x, hx⟩ => trod_repD d f.type c h1 h2 fuel _ x hx) fs.toList 0 n codes hc hn (fun f hf => mapM_each hys f hf) (by omega)
                refine ⟨y, ?_⟩
                simp only [RepD]
                rw [Nat.sub_zero, List.drop_zero, List.take_of_length_le (by omega)] at hy
                exact hy
              · rw [if_neg hl] at ht; simp at ht
        case array n e =>
          cases hc : tcOf P d e with
          | none => simp [hc] at h
          | some c' =>
            simp only [hc, Option.map_some, Option.some.injEq] at h
            subst h
            simp only [Bool.and_eq_true, Nat.beq_eq] at hf
            by_cases hl : cs.length = P.cellsOf t
            · rw [if_pos hl] at ht
              obtain ⟨ys, hys, _⟩ := Option.map_eq_some_iff.1 ht
              obtain ⟨y, hy⟩ := items_repD (m := memW W) (c := c') (cs := cs) (sz := P.cellsOf e) n 0 (fun i _ hi => by
                obtain ⟨z, hz⟩ := mapM_each hys i (List.mem_range.2 (by omega))
                exact trod_repD d e c' hc hf.1 fuel _ z hz) (by rw [Nat.zero_add]; omega)
              refine ⟨y, ?_⟩
              simp only [RepD]
              rw [Nat.zero_mul, List.drop_zero, List.take_of_length_le (by omega)] at hy
              exact hy
            · rw [if_neg hl] at ht; simp at ht

/-- a code for each parameter -/
def codesOk (P : Program) : List TypeId → List TC → Bool
  | [], [] => true
  | t :: ts, c :: cs => (match tcOf P 8 t with
      | some d => d.beq c
      | none => false) && (flatOk P 8 t && (decide (t < P.types.size) && (P.readableRec t && codesOk P ts cs)))
  | _, _ => false
theorem okWide_agg {w : World} {r : Reach} {b0 : Nat} {t : TypeId} {v : Value} {d : Nat} {c : TC} (hc : tcOf P (d + 1) t = some c) (h : Value.okWide P w r b0 t v) : ((∃ cs, c = .st cs) → ∃ vs : Array Value, v = .agg vs) ∧ ((∀ cs, c ≠ .st cs) → v.oneCell' = true) := by
  simp only [tcOf] at hc
  cases hu : P.underlying t with
  | none => simp [hu] at hc
  | some desc =>
    simp only [Value.okWide, hu] at h
    cases desc <;> simp only [hu] at hc h <;> try (simp at hc; done)
    case struct fs =>
      cases hx : tcs (tcOf P d) fs.toList with
      | none => simp [hx] at hc
      | some l =>
        simp only [hx, Option.map_some, Option.some.injEq] at hc
        subst hc
        obtain ⟨cs, rfl, _⟩ := h
        exact ⟨fun _ => ⟨cs, rfl⟩, fun hh => absurd rfl (hh _)⟩
    case array n e =>
      cases hx : tcOf P d e with
      | none => simp [hx] at hc
      | some l =>
        simp only [hx, Option.map_some, Option.some.injEq] at hc
        subst hc
        obtain ⟨cs, rfl, _⟩ := h
        exact ⟨fun _ => ⟨cs, rfl⟩, fun hh => absurd rfl (hh _)⟩
    all_goals
      refine ⟨fun ⟨cs, e⟩ => ?_, fun _ => ?_⟩
      · subst e; simp at hc
      · simp only [Cell.okWide, hu] at h
        cases v <;> first | rfl | (simp [Cell.ok, hu] at h)
theorem args_rep {w : World} {r : Reach} {b0 : Nat} {τ : Env} (hτ : τ.mem = memW W) : ∀ (ts : List TypeId) (vs : List Value) (ds : List (DataW H)) (ps : List MemPlace) (cs : List TC), codesOk P ts cs = true → DataW.TrodAll enc P W base sp held ts vs ds ps →
    (∀ (j : Nat) (t : TypeId) (v : Value), ts[j]? = some t → vs[j]? = some v → Value.okWide P w r b0 t v) → ∃ y, RepL τ (encAs cs y) vs ∧ WFDs cs y
  | [], [], _, _, [], _, _, _ => ⟨(), by simp only [encAs, RepL], by simp only [WFDs]⟩
  | [], _ :: _, _, _, _, _, h, _ => h.elim
  | _ :: _, [], _, _, _, _, h, _ => h.elim
  | [], [], _, _, _ :: _, h, _, _ => by simp [codesOk] at h
  | _ :: _, _, _, _, [], h, _, _ => by simp [codesOk] at h
  | t :: ts, v :: vs, [], _, c :: cs, _, h, _ => h.elim
  | t :: ts, v :: vs, d :: ds, ps, c :: cs, hc, h, hok => by
    simp only [codesOk, Bool.and_eq_true] at hc
    obtain ⟨hc1, hc2, hc3, hc4, hc5⟩ := hc
    obtain ⟨p, q, ⟨fuel, h1⟩, h2, _⟩ := h
    split at hc1 <;> try (simp at hc1; done)
    rename_i c' hc'
    have := TC.beq_eq _ _ hc1
    subst this
    obtain ⟨y, hy⟩ := trod_repD 8 t c' hc' hc2 fuel _ _ h1
    obtain ⟨z, hz1, hz2⟩ := args_rep hτ ts vs ds q cs hc5 h2 fun j t v hj hv => hok (j + 1) t v hj hv
    obtain ⟨k1, k2⟩ := okWide_agg hc' (hok 0 t v rfl rfl)
    refine ⟨(y, z), ?_, ?_⟩
    · simp only [encAs, RepL]
      exact ⟨v, vs, rfl, encA_rep c' y v (by rw [hτ]; exact hy) k1 k2, hz1⟩
    · simp only [WFDs]; exact ⟨RepD.wf c' y _ hy, hz2⟩
theorem trodAll_stay (hl : laidOutB P = true) {W' : World} (hb : Below W.heap.size W W') : ∀ (ts : List TypeId) (vs : List Value) (ds : List (DataW H)) (ps : List MemPlace) (cs : List TC), codesOk P ts cs = true → DataW.TrodAll enc P W 0 (fun _ => true) true ts vs ds ps →
    (∀ x ∈ ps, x.block < W.heap.size) → ∀ sp : Nat → Bool, (∀ p ∈ ps, sp p.block = true) → DataW.TrodAll enc P W' 0 sp true ts vs ds ps
  | [], [], [], ps, _, _, h, _, _, _ => h
  | [], [], _ :: _, ps, _, _, h, _, _, _ => h.elim
  | [], _ :: _, _, _, _, _, h, _, _, _ => h.elim
  | _ :: _, [], _, _, _, _, h, _, _, _ => h.elim
  | _ :: _, _, _, _, [], h, _, _, _, _ => by simp [codesOk] at h
  | _ :: _, _ :: _, [], _, _ :: _, _, h, _, _, _ => h.elim
  | t :: ts, v :: vs, d :: ds, ps, c :: cs, hc, h, hlt, sp', hsp => by
    simp only [codesOk, Bool.and_eq_true, decide_eq_true_eq] at hc
    obtain ⟨hc1, hc2, hc3, hc4, hc5⟩ := hc
    obtain ⟨p, q, h1, h2, rfl⟩ := h
    refine ⟨p, q, ?_, trodAll_stay hl hb ts vs ds q cs hc5 h2 (fun x hx => hlt x (by simp [hx])) sp' (fun x hx => hsp x (by simp [hx])), rfl⟩
    exact WideElems.Trod_stays hl hc4 hc3 h1 (fun x hx => hb.same (hlt x (by simp [hx]))) (fun x hx => hsp x (by simp [hx]))

theorem trodAll_len : ∀ {ts : List TypeId} {vs : List Value} {ds : List (DataW H)} {ps : List MemPlace}, DataW.TrodAll enc P W base sp held ts vs ds ps → ds.length = ts.length
  | [], [], [], _, _ => rfl
  | [], [], _ :: _, _, h => h.elim
  | [], _ :: _, _, _, h => h.elim
  | _ :: _, [], _, _, h => h.elim
  | _ :: _, _ :: _, [], _, h => h.elim
  | _ :: _, _ :: _, _ :: _, _, ⟨_, _, _, h, _⟩ => congrArg (· + 1) (trodAll_len h)

/-- for all data the law's tree comes out satisfied -/
structure LawSat (X : Ctx) (f : FuncId) (cs : List TC) (m : Nat) : Prop where
  sat : ∀ y : TCTs cs, WFDs cs y → (evFn X m (.fn f) (encAs cs y) noHeap 0 lawK).sat (fun _ => True)
theorem lawSat {X : Ctx} {f : FuncId} {cs : List TC} (m : Nat) (T : TCTs cs → Tree Unit) (hT : ∀ y : TCTs cs, evFn X m (.fn f) (encAs cs y) noHeap 0 lawK = T y) (h : ∀ y : TCTs cs, WFDs cs y → (T y).sat (fun _ => True)) : LawSat X f cs m :=
  ⟨fun y hw => by rw [hT y]; exact h y hw⟩
/-- A law's contract from its evaluation: for all data the tree comes out satisfied. -/
theorem law_contract {X : Ctx} (hX : CtxOk X) {P : Program} (hP : X.P = P) (hl : laidOutB P = true) {f : FuncId} {fn : Func} {s : ChangeSpec} {apart fresh handsOn again : Bool} {tb : TypeId} (cs : List TC) (m : Nat)
    (hvars : s.vars = []) (hcs : codesOk P fn.params.toList cs = true) (hr : fn.resultTypes = #[tb]) (hu : P.underlying tb = some .bool)
    (n : Nat) (hn : fn.params.toList.length = n) (hs : ∀ ds : List (DataW H), ds.length = n → s.fn H ds = { results := [.lit (.bool true)], args := ds, vars := [] })
    (hsat : LawSat X f cs m)
    {args : Array Value} {ds gs : List (DataW H)} {before : List MemPlace} {base : Nat}
    (hval : ∀ (j : Nat) t v, fn.params[j]? = some t → args[j]? = some v → Value.okWide P W .any base t v)
    (hW : DataW.Whole enc P fn.params.toList s.vars apart W args.toList ds gs before) :
    Calls P f args W fun e W' => ∃ v, e = .returned v ∧ s.post enc P fn apart fresh handsOn again W args v W' := by
  subst hP
  have hW' := hW
  obtain ⟨p, q, hA, hV, rfl, hfz, hnd⟩ := hW
  have hlt : ∀ x ∈ p ++ q, x.block < W.heap.size := fun x hx => hW'.lt x hx
  rw [hvars] at hV
  obtain ⟨rfl, rfl⟩ := trodVars_none hV
  obtain ⟨y, hy, hwf⟩ := args_rep (τ := env0 (memW W)) rfl fn.params.toList args.toList ds p cs hcs hA (w := W) (r := .any) (b0 := base) fun j t v hj hv => hval j t v (by simpa using hj) (by simpa using hv)
  have hc := law_calls hX m (memW_ok W) hy (hsat.sat y hwf)
  rw [show args.toList.toArray = args from by simp] at hc
  refine hc.mono ?_
  rintro e W' ⟨rfl, hb⟩
  have hfn := hs ds ((trodAll_len hA).trans hn)
  refine ⟨_, rfl, post_law (pa := p) (pv := []) hW' (fun _ _ _ => ?_) (fun sp hsp => ?_) (fun sp _ => ?_) (by simp) hb (ok_one hr rfl (okWide_bool_mk hu _))⟩
  · rw [List.append_nil, hfn, hr]
    exact trodAll_cons_mk (shut_bool hu _) trodAll_mk0
  · rw [List.append_nil, hfn]
    exact trodAll_stay hl hb _ _ _ _ cs hcs hA (fun x hx => hlt x (by simp [hx])) sp (fun x hx => hsp x (by simp [hx]))
  · rw [List.append_nil, hfn, hvars]
    rfl
end
end V
end Go.Proofs.Ytmmhbianajpdgaa
