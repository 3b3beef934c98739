/- That the symbolic evaluator of the text Ea is sound: each operation. -/
import Derived.Test.YtmmhbianajpdgaaVc
namespace Go.Proofs.Ytmmhbianajpdgaa
open Go.RowKit
namespace V
section
variable {P : Program} {σ : Env} {w : World} {a : Go.Act} {s : St}

theorem repL_ops (hρ : ∀ x, Rep σ (s.eval x) (a.eval x)) (l : List Operand) : RepL σ (l.map s.eval) (l.map a.eval) := RepL.map hρ l

theorem eff_build (hρ : ∀ x, Rep σ (s.eval x) (a.eval x)) (o : Oper) (t : TypeId) (parts : Array (Nat × Operand)) (hop : o.op = .build t parts) : AOk P σ w ((execOp a.eval o).run P w) (eff P (.build t parts) s.eval) := by
  simp only [eff]
  refine aok_opt fun x hx => ?_
  have hpl : (parts.toList.map fun p => (p.1, s.eval p.2)).length = (parts.map fun (i, x) => (i, a.eval x)).toList.length ∧ ∀ (i : Nat) (p : Nat × AV) (q : Nat × Value), (parts.toList.map fun p => (p.1, s.eval p.2))[i]? = some p → (parts.map fun (i, x) => (i, a.eval x)).toList[i]? = some q → p.1 = q.1 ∧ Rep σ p.2 q.2 := by
    refine ⟨by simp, fun i p q hp hq => ?_⟩
    simp only [Array.toList_map, List.getElem?_map] at hp hq
    cases hi : parts.toList[i]? with
    | none => simp [hi] at hp
    | some e =>
      simp [hi] at hp hq
      subst hp; subst hq
      exact ⟨rfl, hρ _⟩
  unfold buildA at hx
  cases hz : zeroT P t with
  | none => simp [hz] at hx
  | some z =>
    cases hu : P.underlying t with
    | none => simp [hz, hu] at hx
    | some d =>
      have hz' := hz
      unfold zeroT at hz'
      cases hit : P.info? t with
      | none => simp [hit] at hz'
      | some it =>
        cases hiz : it.zero with
        | none => simp [hit, hiz] at hz'
        | some zv =>
          simp [hit, hiz] at hz'
          have hzr : RepL σ z zv.cells.toList := by rw [← hz']; exact repL_ofCell σ _
          have key : ∀ cells, P.built t (parts.map fun (i, x) => (i, a.eval x)).toList = some cells → (execOp a.eval o).run P w = .ok (.value (.agg cells)) w := by
            intro cells hc
            unfold execOp
            simp only [hop, Sem.run_bind, run_build w t _ cells hc, Result.andThen_ok, Sem.run_pure]
          cases d <;> try (simp [hz, hu] at hx; done)
          case array n e =>
            cases hs : sizeT P e with
            | none => simp [hz, hu, hs] at hx
            | some sz =>
              simp only [hz, hu, hs, Option.map_eq_some_iff] at hx
              obtain ⟨r, hf, rfl⟩ := hx
              obtain ⟨us, h1, h2, _⟩ := fill_rep _ _ _ _ _ _ hzr hpl hf
              unfold sizeT at hs
              cases hie : P.info? e with
              | none => simp [hie] at hs
              | some ie =>
                simp [hie] at hs; subst hs
                refine ⟨_, key us.toArray ?_, by simp only [Rep]; exact ⟨us, h2, rfl⟩⟩
                unfold Program.built
                simp only [hit, hu, hiz, hie]
                simpa using h1
          case struct fields =>
            cases hp : placesA P fields.toList with
            | none => simp [hz, hu, hp] at hx
            | some places =>
              simp only [hz, hu, hp, Option.map_eq_some_iff] at hx
              obtain ⟨r, hf, rfl⟩ := hx
              have hpm : ∀ (fs : List Field) (pl : List (Nat × Nat)), placesA P fs = some pl → fs.mapM (fun f => (P.info? f.type).map fun i => (f.offset, i.size)) = some pl := by
                intro fs
                induction fs with
                | nil => intro pl h; simp [placesA] at h; subst h; rfl
                | cons f fs ih =>
                  intro pl h
                  simp only [placesA, sizeT] at h
                  cases hi : P.info? f.type with
                  | none => simp [hi] at h
                  | some i =>
                    cases hr : placesA P fs with
                    | none => simp [hi, hr] at h
                    | some r =>
                      simp [hi, hr] at h; subst h
                      simp [List.mapM_cons, hi, ih r hr]
              have hnth : nth places = (places.toArray[·]?) := by funext i; simp [nth_eq]
              rw [hnth] at hf
              obtain ⟨us, h1, h2, _⟩ := fill_rep _ _ _ _ _ _ hzr hpl hf
              refine ⟨_, key us.toArray ?_, by simp only [Rep]; exact ⟨us, h2, rfl⟩⟩
              unfold Program.built
              simp only [hit, hu, hiz, hpm _ _ hp]
              simpa using h1

theorem fdiv_in {k : IntKind} {a : Int} (h : inK k a) (n : Nat) : inK k (a.fdiv (2 ^ n)) := by
  have h0 : minK k ≤ 0 ∧ 0 ≤ maxK k := by cases k <;> simp [minK, maxK]
  obtain ⟨h1, h2⟩ := h
  have hp : (0 : Int) < 2 ^ n := Int.pow_pos (by decide)
  rw [Int.fdiv_eq_ediv_of_nonneg _ (Int.le_of_lt hp)]
  rcases Int.le_total 0 a with ha | ha
  · have k1 := Int.ediv_nonneg ha (Int.le_of_lt hp)
    have k2 := Int.ediv_le_self (2 ^ n) ha
    exact ⟨by omega, by omega⟩
  · have k1 : a ≤ a / 2 ^ n := by
      rw [Int.le_ediv_iff_mul_le hp]
      have : a * 2 ^ n ≤ a * 1 := Int.mul_le_mul_of_nonpos_left ha (by omega)
      omega
    have k2 : a / 2 ^ n ≤ 0 := Int.le_of_lt_add_one ((Int.ediv_lt_iff_lt_mul hp).2 (by simp; omega))
    exact ⟨by omega, by omega⟩
theorem aok_bin (op : BinOp) (t : TypeId) (xo yo : Operand) (ty : TypeId) (o : Oper) (hop : o.op = .binOp op t xo yo ty) {x y : AV} (hx : Rep σ x (a.eval xo)) (hy : Rep σ y (a.eval yo)) :
    AOk P σ w ((execOp a.eval o).run P w) (binA P op t x y) := by
  have hrun : (execOp a.eval o).run P w = ((eqGuard op t xo yo (a.eval xo) (a.eval yo)).run P w).andThen fun _ w' => ((do pure (Next.value (← binOp op t (a.eval xo) (a.eval yo))) : Sem Next).run P w') := by
    unfold execOp
    simp only [hop, Sem.run_bind]
    cases (eqGuard op t xo yo (a.eval xo) (a.eval yo)).run P w <;> rfl
  have hshift : ∀ (op' : BinOp) (k k' : IntKind) (m n : Int), inK k m → (op' = .shl ∨ op' = .shr) → op = op' → a.eval xo = .int k m → a.eval yo = .int k' n → AOk P σ w ((execOp a.eval o).run P w) (shiftA op' k m n) := by
    intro op' k k' m n hm hs ho h1 h2
    subst ho
    rw [hrun, h1, h2]
    rcases hs with rfl | rfl
    · simp only [shiftA, AOk]
      intro hb
      have hb' : ¬ n < 0 := by simpa using hb
      refine ⟨_, ?_, rep_wrap _ _⟩
      simp [eqGuard, binOp, Op.shift, hb']
    · simp only [shiftA, AOk]
      intro hb
      have hb' : ¬ n < 0 := by simpa using hb
      refine ⟨_, ?_, rep_int (fdiv_in hm _)⟩
      simp [eqGuard, binOp, Op.shift, hb']
  unfold binA
  split
  · simp only [Rep] at hx hy
    exact hshift .shl _ _ _ _ hx.2 (.inl rfl) rfl hx.1 hy.1
  · simp only [Rep] at hx hy
    exact hshift .shr _ _ _ _ hx.2 (.inr rfl) rfl hx.1 hy.1
  · rename_i k m k' n hn1 hn2
    simp only [Rep] at hx hy
    by_cases hk : k = k'
    · subst hk
      simp only [decide_true, cond_true]
      have h1 : op ≠ .shl := hn1
      have h2 : op ≠ .shr := hn2
      have hg : (eqGuard op t xo yo (.int k m) (.int k n)).run P w = .ok () w := by cases op <;> simp [eqGuard]
      rw [hrun, hx.1, hy.1, hg, Result.andThen_ok]
      exact aok_arith t op k m n hx.2 h1 h2
    · simp only [hk, decide_false, cond_false, AOk]
  · rename_i p q
    simp only [Rep] at hx hy
    split
    · rename_i hu
      simp only [cond_true, AOk]
      refine ⟨_, ?_, by simp only [Rep]; rfl⟩
      rw [hrun, hx, hy]
      have := run_equalIn_bool' (P := P) w 9999 t p q hu
      simp [eqGuard, binOp, Op.equal, Op.maxDepth, this]
    · simp only [cond_false, AOk]
  · rename_i p q
    simp only [Rep] at hx hy
    split
    · rename_i hu
      simp only [cond_true, AOk]
      refine ⟨_, ?_, by simp only [Rep]; rfl⟩
      rw [hrun, hx, hy]
      have := run_equalIn_bool' (P := P) w 9999 t p q hu
      simp [eqGuard, binOp, Op.equal, Op.maxDepth, this]
    · simp only [cond_false, AOk]
  · rename_i xs ys
    cases hm : P.eqGuardType P.depth t with
    | true => simp only [cond_true, AOk]
    | false =>
      simp only [cond_false]
      refine aok_yes fun b hb => ?_
      have h1 := run_eqA Op.maxDepth t _ _ b _ _ w hb hx hy
      simp only [Rep] at hx hy
      obtain ⟨us, hx1, hx2⟩ := hx
      obtain ⟨vs, hy1, hy2⟩ := hy
      rw [hrun, hx2, hy2, run_eqGuard_agg w _ t xo yo _ _ hm]
      rw [hx2, hy2] at h1
      simp [run_eql_struct, h1, show (10000 : Nat) = Op.maxDepth from rfl]
  · rename_i xs ys
    cases hm : P.eqGuardType P.depth t with
    | true => simp only [cond_true, AOk]
    | false =>
      simp only [cond_false]
      refine aok_not fun b hb => ?_
      have h1 := run_eqA Op.maxDepth t _ _ b _ _ w hb hx hy
      simp only [Rep] at hx hy
      obtain ⟨us, hx1, hx2⟩ := hx
      obtain ⟨vs, hy1, hy2⟩ := hy
      rw [hrun, hx2, hy2, run_eqGuard_agg w _ t xo yo _ _ hm]
      rw [hx2, hy2] at h1
      simp [run_neq_struct, h1, show (10000 : Nat) = Op.maxDepth from rfl]
  · simp only [AOk]

theorem eff_un (hρ : ∀ x, Rep σ (s.eval x) (a.eval x)) (o : Oper) (op : UnOp) (t : TypeId) (x : Operand) (hop : o.op = .unOp op t x) : AOk P σ w ((execOp a.eval o).run P w) (eff P (.unOp op t x) s.eval) := by
  have hx := hρ x
  simp only [eff, unA]
  split
  · rename_i k n h
    rw [h] at hx; simp only [Rep] at hx
    simp only [AOk]
    refine ⟨_, ?_, rep_wrap _ _⟩
    simp [execOp, hop, hx.1, Op.unary, Op.intArith]
  · rename_i b h
    rw [h] at hx; simp only [Rep] at hx
    simp only [AOk]
    refine ⟨_, ?_, by simp only [Rep]; rfl⟩
    simp [execOp, hop, hx, Op.unary]
  · simp only [AOk]

theorem eff_conv (hρ : ∀ x, Rep σ (s.eval x) (a.eval x)) (o : Oper) (src dst : TypeId) (x : Operand) (hop : o.op = .convert src dst x) : AOk P σ w ((execOp a.eval o).run P w) (eff P (.convert src dst x) s.eval) := by
  have hx := hρ x
  simp only [eff, convA]
  split
  · rename_i k0 k k' n hu1 hu2 h
    rw [h] at hx; simp only [Rep] at hx
    simp only [AOk]
    refine ⟨_, ?_, rep_wrap _ _⟩
    simp [execOp, hop, hx.1, convert, run_underlying hu1, run_underlying hu2, Conv.intToInt]
  · simp only [AOk]

theorem eff_field (hρ : ∀ x, Rep σ (s.eval x) (a.eval x)) (o : Oper) (t : TypeId) (x : Operand) (i : Nat) (hop : o.op = .field t x i) : AOk P σ w ((execOp a.eval o).run P w) (eff P (.field t x i) s.eval) := by
  have hx := hρ x
  simp only [eff]
  split
  · rename_i cs fs h hu
    rw [h] at hx; simp only [Rep] at hx
    obtain ⟨us, h1, h2⟩ := hx
    simp only [nth_eq]
    cases hf : fs.toList[i]? with
    | none => simp only [AOk]
    | some f =>
      refine aok_opt fun y hy => ?_
      obtain ⟨v, hv1, hv2⟩ := run_part h1 hy w
      refine ⟨v, ?_, hv2⟩
      have hf' : fs[i]? = some f := by simpa using hf
      simp [execOp, hop, h2, Instr.field, run_underlying hu, hf', asAgg, hv1]
  · simp only [AOk]

theorem eff_fieldAddr (hρ : ∀ x, Rep σ (s.eval x) (a.eval x)) (o : Oper) (t : TypeId) (x : Operand) (i : Nat) (hop : o.op = .fieldAddr t x i) : AOk P σ w ((execOp a.eval o).run P w) (eff P (.fieldAddr t x i) s.eval) := by
  have hx := hρ x
  simp only [eff]
  split
  · rename_i id row st col fs h hu
    rw [h] at hx; simp only [Rep] at hx
    obtain ⟨b, h1, h2⟩ := hx
    simp only [nth_eq]
    cases hf : fs.toList[i]? with
    | none => simp only [AOk]
    | some f =>
      simp only
      cases hs : sizeT P f.type with
      | none => simp only [AOk]
      | some sz =>
        simp only
        cases hz : Nat.beq sz 0 with
        | true => simp only [cond_true, AOk]
        | false =>
          have hz' : sz ≠ 0 := by intro e; subst e; simp at hz
          simp only [cond_false, AOk]
          refine ⟨.pointer (some ⟨b, row * st + (col + f.offset), none⟩), ?_, by simp only [Rep]; exact ⟨b, h1, rfl⟩⟩
          have hf' : fs[i]? = some f := by simpa using hf
          simp [execOp, hop, h2, Instr.fieldAt, run_underlying hu, hf', Instr.sureAddr, fieldPlace, run_size hs, hz', Addr.add_lit, Nat.add_assoc]
  · rename_i c x' col fs h hu
    rw [h] at hx; simp only [Rep] at hx
    obtain ⟨b, o', vs, h1, h2, h3⟩ := hx
    simp only [nth_eq]
    cases hf : fs.toList[i]? with
    | none => simp only [AOk]
    | some f =>
      simp only
      cases hs : sizeT P f.type with
      | none => simp only [AOk]
      | some sz =>
        simp only
        cases hz : Nat.beq sz 0 with
        | true => simp only [cond_true, AOk]
        | false =>
          have hz' : sz ≠ 0 := by intro e; subst e; simp at hz
          simp only [cond_false, AOk]
          refine ⟨.pointer (some ⟨b, o' + (col + f.offset), none⟩), ?_, by simp only [Rep]; exact ⟨b, o', vs, rfl, h2, h3⟩⟩
          have hf' : fs[i]? = some f := by simpa using hf
          simp [execOp, hop, h1, Instr.fieldAt, run_underlying hu, hf', Instr.sureAddr, fieldPlace, run_size hs, hz', Addr.add_lit, Nat.add_assoc]
  · simp only [AOk]

theorem slD_cases {m : Nat → Nat → Option Value} {c : TC} {xs : List (TCT c)} {v : Value} (h : RepD m (.sl c) xs [v]) : (v = .slice none 0 0 ∧ xs = []) ∨ ∃ b o s cap us, v = .slice (some ⟨b, o, s⟩) xs.length cap ∧ xs.length ≤ cap ∧ (cap : Int) ≤ maxK .i64 ∧ ((us = [] ∨ s = none) ∧ Reads m b o us) ∧ LR (RepD m c) xs us := by
  simp only [RepD, List.cons.injEq, and_true] at h
  obtain ⟨v', rfl, h⟩ := h
  exact h
theorem addr_add (b o n : Nat) (s : Option Nat) : (⟨b, o, s⟩ : Addr).add n = ⟨b, o + n, if n = 0 then s else none⟩ := by
  unfold Addr.add
  split
  · rename_i h; simp [h]
  · rfl
theorem slD_mk {m : Nat → Nat → Option Value} {c : TC} {xs : List (TCT c)} {v : Value} (h : (v = .slice none 0 0 ∧ xs = []) ∨ ∃ b o s cap us, v = .slice (some ⟨b, o, s⟩) xs.length cap ∧ xs.length ≤ cap ∧ (cap : Int) ≤ maxK .i64 ∧ ((us = [] ∨ s = none) ∧ Reads m b o us) ∧ LR (RepD m c) xs us) : RepD m (.sl c) xs [v] := by
  simp only [RepD]; exact ⟨v, rfl, h⟩
theorem Reads.sub {m : Nat → Nat → Option Value} {b o : Nat} {vs : List Value} (h : Reads m b o vs) (k n : Nat) : Reads m b (o + k) ((vs.drop k).take n) := by
  intro j u hj
  rw [List.getElem?_take] at hj
  split at hj
  · rw [List.getElem?_drop] at hj
    have := h _ _ hj
    rwa [← Nat.add_assoc] at this
  · simp at hj
theorem eff_indexAddr (hρ : ∀ x, Rep σ (s.eval x) (a.eval x)) (o : Oper) (t : TypeId) (x i : Operand) (hop : o.op = .indexAddr t x i) : AOk P σ w ((execOp a.eval o).run P w) (eff P (.indexAddr t x i) s.eval) := by
  have hx := hρ x
  have hi := hρ i
  simp only [eff]
  split
  · rename_i id row st col k n len e h h' hu
    rw [h] at hx; rw [h'] at hi; simp only [Rep] at hx hi
    replace hi := hi.1
    obtain ⟨b, h1, h2⟩ := hx
    cases hs : sizeT P e with
    | none => simp only [AOk]
    | some sz =>
      simp only [AOk]
      intro hb
      have hb' := of_decide_eq_true hb
      refine ⟨.pointer (some ⟨b, row * st + (col + n.toNat * sz), none⟩), ?_, by simp only [Rep]; exact ⟨b, h1, rfl⟩⟩
      simp [execOp, hop, h2, hi, Instr.indexAt, asIntOf, run_underlying hu, Instr.sureAddr, run_size hs, hb', Addr.add_lit, Nat.add_assoc]
  · rename_i c y col k n len e h h' hu
    rw [h] at hx; rw [h'] at hi; simp only [Rep] at hx hi
    replace hi := hi.1
    obtain ⟨b, o', vs, h1, h2, h3⟩ := hx
    cases hs : sizeT P e with
    | none => simp only [AOk]
    | some sz =>
      simp only [AOk]
      intro hb
      have hb' := of_decide_eq_true hb
      refine ⟨.pointer (some ⟨b, o' + (col + n.toNat * sz), none⟩), ?_, by simp only [Rep]; exact ⟨b, o', vs, rfl, h2, h3⟩⟩
      simp [execOp, hop, h1, hi, Instr.indexAt, asIntOf, run_underlying hu, Instr.sureAddr, run_size hs, hb', Addr.add_lit, Nat.add_assoc]
  · rename_i id off st len cap k n e h h' hu
    rw [h] at hx; rw [h'] at hi; simp only [Rep] at hx hi
    replace hi := hi.1
    obtain ⟨_, _, b, h1, h2⟩ := hx
    cases hs : sizeT P e with
    | none => simp only [AOk]
    | some sz =>
      simp only
      cases hz : Nat.beq st sz with
      | false => simp only [cond_false, AOk]
      | true =>
        have hz' : st = sz := by simpa using hz
        subst hz'
        simp only [cond_true, AOk]
        intro hb
        have hb' := of_decide_eq_true hb
        refine ⟨.pointer (some ⟨b, n.toNat * st + off, none⟩), ?_, by simp only [Rep]; exact ⟨b, h1, rfl⟩⟩
        simp [execOp, hop, h2, hi, Instr.indexAt, asIntOf, run_underlying hu, run_size hs, hb', Addr.add_lit, Nat.add_comm]
  · rename_i c xs k n e h h' hu
    rw [h] at hx; rw [h'] at hi; simp only [Rep] at hx hi
    replace hi := hi.1
    cases hs : sizeT P e with
    | none => simp only [AOk]
    | some sz =>
      simp only
      cases hz : (Nat.beq c.size sz && Nat.ble 1 sz) with
      | false => simp only [cond_false, AOk]
      | true =>
        simp only [Bool.and_eq_true, Nat.beq_eq, Nat.ble_eq] at hz
        obtain ⟨hz, hz1⟩ := hz
        subst hz
        simp only [cond_true, AOk]
        intro hb
        have hb' := of_decide_eq_true hb
        have hlt : n.toNat < xs.length := by omega
        rcases slD_cases hx with ⟨_, rfl⟩ | ⟨b, o', sp, cap, us, h2, h3, h4, ⟨hsp, h5⟩, h6⟩
        · simp at hlt
        · have hne : sp = none := hsp.resolve_left fun e => by
            subst e
            have h7 := LR.len (fun x vs => RepD.len c x vs) h6
            simp only [List.length_nil] at h7
            rcases Nat.mul_eq_zero.1 h7.symm with h7 | h7 <;> omega
          subst hne
          refine ⟨.pointer (some ⟨b, o' + n.toNat * c.size, none⟩), ?_, ?_⟩
          · simp [execOp, hop, h2, hi, Instr.indexAt, asIntOf, run_underlying hu, run_size hs, hb', Addr.add_lit]
          · simp only [Rep]
            exact ⟨b, o' + n.toNat * c.size, _, rfl, h5.sub _ c.size, LR.get (fun x vs => RepD.len c x vs) n.toNat _ h6 hlt⟩
  · rename_i id k n e h h' hu
    rw [h] at hx; rw [h'] at hi; simp only [Rep] at hx hi
    replace hi := hi.1
    cases hs : sizeT P e with
    | none => simp only [AOk]
    | some sz =>
      simp only [AOk]
      intro b len cap h1 h2 h3
      rw [hx.1] at h1
      have hv := Option.some.inj h1
      simp [execOp, hop, hi, Instr.indexAt, asIntOf, run_underlying hu, run_size hs, h2, h3, hv, Addr.add_lit]
  · simp only [AOk]

theorem eff_index (hρ : ∀ x, Rep σ (s.eval x) (a.eval x)) (o : Oper) (t : TypeId) (x i : Operand) (hop : o.op = .index t x i) : AOk P σ w ((execOp a.eval o).run P w) (eff P (.index t x i) s.eval) := by
  have hx := hρ x
  have hi := hρ i
  simp only [eff]
  split
  · rename_i s0 k n h h' hu
    rw [h] at hx; rw [h'] at hi; simp only [Rep] at hx hi
    replace hi := hi.1
    simp only [AOk]
    intro hb
    have hb' := of_decide_eq_true hb
    have hlt : n.toNat < s0.size := by omega
    have hget : s0[n.toNat]? = some (s0.data.toList.getD n.toNat 0) := by
      have hlt' : n.toNat < s0.data.size := hlt
      rw [getElem?_pos s0 n.toNat hlt]
      congr 1
      simp only [List.getD, Array.getElem?_toList, Array.getElem?_eq_getElem hlt', Option.getD_some]
      rfl
    refine ⟨_, ?_, rep_int ⟨by simp only [minK]; omega, ?_⟩⟩
    · simp only [execOp, hop, hx, hi, Instr.index, asIntOf, Sem.run_bind, Sem.run_pure, Result.andThen_ok, run_underlying hu, if_pos hb'.1, hget]
    · have := UInt8.toNat_lt (s0.data.toList.getD n.toNat 0)
      simp only [maxK]; omega
  · rename_i cs k n len e h h' hu
    rw [h] at hx; rw [h'] at hi; simp only [Rep] at hx hi
    replace hi := hi.1
    obtain ⟨us, h1, h2⟩ := hx
    cases hs : sizeT P e with
    | none => simp only [AOk]
    | some sz =>
      simp only [AOk]
      intro hb
      have hb' := of_decide_eq_true hb
      refine aok_opt fun y hy => ?_
      obtain ⟨v, hv1, hv2⟩ := run_part h1 hy w
      refine ⟨v, ?_, hv2⟩
      simp [execOp, hop, h2, hi, Instr.index, asIntOf, run_underlying hu, run_size hs, hb', hv1]
  · simp only [AOk]

theorem eff_alloc (o : Oper) (t : TypeId) (hop : o.op = .alloc t) : AOk P σ w ((execOp a.eval o).run P w) (eff P (.alloc t) s.eval) := by
  simp only [eff]
  cases hz : zeroT P t with
  | none => simp only [AOk]
  | some z =>
    obtain ⟨v, h1, h2⟩ := run_zero (σ := σ) hz w
    simp only [AOk]
    refine ⟨v.cells.toList, .pointer (some ⟨w.heap.size, 0, none⟩), h2, ?_, fun τ i _ hi => ?_⟩
    · simp [execOp, hop, Instr.alloc, h1, newVar, newRow]
    · simp only [Rep]; exact ⟨_, hi, by simp⟩

theorem eff_box (hρ : ∀ x, Rep σ (s.eval x) (a.eval x)) (o : Oper) (t : TypeId) (x : Operand) (hop : o.op = .box t x) : AOk P σ w ((execOp a.eval o).run P w) (eff P (.box t x) s.eval) := by
  simp only [eff]
  cases hc : cellsA (s.eval x) with
  | none => simp only [AOk]
  | some cs =>
    have h2 := rep_cells (hρ x) hc
    simp only [AOk]
    refine ⟨(a.eval x).cells.toList, .pointer (some ⟨w.heap.size, 0, none⟩), h2, ?_, fun τ i _ hi => ?_⟩
    · simp [execOp, hop, Instr.box, newVar, newRow]
    · simp only [Rep]; exact ⟨_, hi, by simp⟩

theorem zeros_rep {σ : Env} {z : List AV} {sz n : Nat} {v : Value} (h2 : RepL σ z v.cells.toList) (h1 : 1 ≤ sz) (hb3 : z.length = sz) : RepL σ (zerosA z sz n) ((List.range n).map (v.cells[· % v.cells.size]!)) := by
  have hvl : v.cells.size = sz := by have := h2.length; simp at this; omega
  refine repL_iff.2 ⟨by simp [zerosA], fun i x u hx hu => ?_⟩
  simp only [zerosA, List.getElem?_map] at hx hu
  cases hr : (List.range n)[i]? with
  | none => simp [hr] at hx
  | some j =>
    simp [hr] at hx hu
    have hj : j % sz < v.cells.toList.length := by simp [hvl]; exact Nat.mod_lt _ (by omega)
    have hjz : j % sz < z.length := by rw [h2.length]; exact hj
    rw [nth_eq, List.getElem?_eq_getElem hjz] at hx
    simp only at hx
    subst hx; subst hu
    refine (repL_iff.1 h2).2 (j % sz) _ _ (List.getElem?_eq_getElem hjz) ?_
    rw [hvl, getElem!_pos v.cells (j % sz) (by simpa using hj)]
    rw [List.getElem?_eq_getElem hj]
    simp

theorem zeros_list {m : Nat → Nat → Option Value} {c : TC} {x : TCT c} {cells : List Value} (h : RepD m c x cells) (hz : 0 < c.size) : ∀ (l : Nat), LR (RepD m c) (List.replicate l x) ((List.range (l * c.size)).map fun j => cells[j % c.size]!) := by
  have hlen := RepD.len c x cells h
  intro l
  induction l with
  | zero => simp [LR]
  | succ l ih =>
    simp only [List.replicate_succ]
    refine ⟨cells, (List.range (l * c.size)).map fun j => cells[j % c.size]!, ?_, h, ih⟩
    rw [Nat.add_mul, Nat.one_mul, Nat.add_comm (l * c.size), List.range_add, List.map_append, List.map_map]
    congr 1
    · refine List.ext_getElem (by simp [hlen]) fun i h1 h2 => ?_
      simp at h1
      rw [List.getElem_map, List.getElem_range, Nat.mod_eq_of_lt h1, getElem!_pos cells i (by omega)]
    · refine List.map_congr_left fun j _ => ?_
      simp
theorem eff_buildSlice (hρ : ∀ x, Rep σ (s.eval x) (a.eval x)) (o : Oper) (t : TypeId) (len : Nat) (parts : Array (Nat × Operand)) (hop : o.op = .buildSlice t len parts) : AOk P σ w ((execOp a.eval o).run P w) (eff P (.buildSlice t len parts) s.eval) := by
  simp only [eff]
  split
  · rename_i e hu
    split
    · rename_i sz z hs hz
      cases hb : (Nat.ble (len * sz) 4096 && (Nat.ble 1 sz && Nat.beq (lenA z) sz)) with
      | false => simp only [cond_false, AOk]
      | true =>
        simp only [Bool.and_eq_true, Nat.ble_eq, Nat.beq_eq, lenA_eq] at hb
        obtain ⟨hb1, hb2, hb3⟩ := hb
        simp only [cond_true]
        split
        · rename_i cs hf
          have hpl : (parts.toList.map fun p => (p.1, s.eval p.2)).length = (parts.map fun (i, x) => (i, a.eval x)).toList.length ∧ ∀ (i : Nat) (p : Nat × AV) (q : Nat × Value), (parts.toList.map fun p => (p.1, s.eval p.2))[i]? = some p → (parts.map fun (i, x) => (i, a.eval x)).toList[i]? = some q → p.1 = q.1 ∧ Rep σ p.2 q.2 := by
            refine ⟨by simp, fun i p q hp hq => ?_⟩
            simp only [Array.toList_map, List.getElem?_map] at hp hq
            cases hi : parts.toList[i]? with
            | none => simp [hi] at hp
            | some e =>
              simp [hi] at hp hq
              subst hp; subst hq
              exact ⟨rfl, hρ _⟩
          obtain ⟨v, h1, h2⟩ := run_zero (σ := σ) hz w
          have hvl : v.cells.size = sz := by have := h2.length; simp at this; omega
          have hrep := zeros_rep (σ := σ) (n := len * sz) h2 hb2 hb3
          obtain ⟨us, h3, h4, h5⟩ := fill_rep _ _ _ _ _ _ hrep hpl hf
          have hlen5 : us.length = len * sz := by rw [h5]; simp
          have hrun : (execOp a.eval o).run P w = .ok (.value (.slice (some ⟨w.heap.size, 0, none⟩) len len)) (w.alloc (.cells us.toArray e)) := by
            have hbig : ¬ len * sz > 2 ^ 24 := by omega
            have hcells : (Array.range (len * sz)).map (v.cells[· % v.cells.size]!) = ((List.range (len * sz)).map (v.cells[· % v.cells.size]!)).toArray := by
              apply Array.ext'; simp
            by_cases h0 : len * sz = 0
            · have hz0 : (Array.range (len * sz)).map ((#[] : Array Value)[· % (#[] : Array Value).size]!) = (Array.range (len * sz)).map (v.cells[· % v.cells.size]!) := by
                rw [h0]; simp
              simp only [execOp, hop, Instr.buildSlice, Sem.run_bind, run_underlying hu, Result.andThen_ok, run_size hs, if_neg hbig, if_pos h0, Sem.run_pure, hz0, hcells, h3, newRow, run_newObj]
              rfl
            · simp only [execOp, hop, Instr.buildSlice, Sem.run_bind, run_underlying hu, Result.andThen_ok, run_size hs, if_neg hbig, if_neg h0, h1, Sem.run_pure, hcells, h3, newRow, run_newObj]
              rfl
          have hll : len ≤ len * sz := Nat.le_mul_of_pos_right len (by omega)
          split
          · rename_i x hx
            cases hd : tcOf P 8 e with
            | none => simp [hd] at hx
            | some d =>
              simp only [hd, Option.bind_some] at hx
              cases hbd : Nat.beq d.size sz with
              | false => simp [hbd] at hx
              | true =>
                simp only [hbd, cond_true, Option.map_eq_some_iff] at hx
                obtain ⟨xs, hxs, rfl⟩ := hx
                have hsz : d.size = sz := by simpa using hbd
                have hcl : cs.length = len * d.size := by have := h4.length; rw [hsz]; omega
                obtain ⟨k1, k2⟩ := decRows_rep len cs us xs hxs h4 hcl
                simp only [AOk]
                refine ⟨us, len, by rw [k2]; exact hrun, by rw [hsz]; exact hlen5, by omega, by simp only [maxLen]; omega, by omega, ?_⟩
                rw [k2, hsz, ← hlen5, List.take_length]
                exact k1
          · simp only [AOk]
            refine ⟨us, .slice (some ⟨w.heap.size, 0, none⟩) len len, h4, hrun, fun τ i _ hi => ?_⟩
            simp only [Rep]
            refine ⟨⟨?_, Nat.le_refl _⟩, ?_, _, hi, by simp⟩ <;> (simp only [maxK]; omega)
        · simp only [AOk]
    · simp only [AOk]
  · simp only [AOk]

theorem max_run : ∀ (l : List AV) (vs : List Value) (k : IntKind) (x : Int) (y : AV), inK k x → RepL σ l vs → maxA k x l = some y → ∃ v, (vs.foldlM Builtin.max2 (.int k x)).run P w = .ok v w ∧ Rep σ y v
  | [], vs, k, x, y, hx, h, hm => by
    simp only [RepL] at h; subst h
    simp [maxA] at hm; subst hm
    exact ⟨_, rfl, rep_int hx⟩
  | z :: l, vs, k, x, y, hx, h, hm => by
    simp only [RepL] at h
    obtain ⟨v, us, rfl, h1, h2⟩ := h
    cases z <;> simp only [maxA] at hm <;> try (simp at hm; done)
    rename_i k' n
    by_cases hk : k = k'
    · subst hk
      simp only [decide_true, cond_true] at hm
      simp only [Rep] at h1
      obtain ⟨rfl, h1⟩ := h1
      obtain ⟨r, hr1, hr2⟩ := max_run l us k _ y (by unfold inK at *; omega) h2 hm
      refine ⟨r, ?_, hr2⟩
      simp only [List.foldlM_cons, Builtin.max2, Sem.run_bind, Sem.run_pure, Result.andThen_ok]
      rw [show (if n > x then n else x) = max x n by split <;> omega]
      exact hr1
    · simp [hk] at hm
theorem min_run : ∀ (l : List AV) (vs : List Value) (k : IntKind) (x : Int) (y : AV), inK k x → RepL σ l vs → minA k x l = some y → ∃ v, (vs.foldlM Builtin.min2 (.int k x)).run P w = .ok v w ∧ Rep σ y v
  | [], vs, k, x, y, hx, h, hm => by
    simp only [RepL] at h; subst h
    simp [minA] at hm; subst hm
    exact ⟨_, rfl, rep_int hx⟩
  | z :: l, vs, k, x, y, hx, h, hm => by
    simp only [RepL] at h
    obtain ⟨v, us, rfl, h1, h2⟩ := h
    cases z <;> simp only [minA] at hm <;> try (simp at hm; done)
    rename_i k' n
    by_cases hk : k = k'
    · subst hk
      simp only [decide_true, cond_true] at hm
      simp only [Rep] at h1
      obtain ⟨rfl, h1⟩ := h1
      obtain ⟨r, hr1, hr2⟩ := min_run l us k _ y (by unfold inK at *; omega) h2 hm
      refine ⟨r, ?_, hr2⟩
      simp only [List.foldlM_cons, Builtin.min2, Sem.run_bind, Sem.run_pure, Result.andThen_ok]
      rw [show (if n < x then n else x) = min x n by split <;> omega]
      exact hr1
    · simp [hk] at hm

theorem isSliceO_spec {o : Option TypeId} (h : isSliceO P o = true) : ∃ t e, o = some t ∧ P.underlying t = some (.slice e) := by
  cases o with
  | none => simp [isSliceO] at h
  | some t =>
    simp only [isSliceO] at h
    split at h
    · rename_i e hu; exact ⟨t, e, rfl, hu⟩
    · simp at h
theorem eff_call (hρ : ∀ x, Rep σ (s.eval x) (a.eval x)) (o : Oper) (c : Call) (hop : o.op = .call c) : AOk P σ w ((execOp a.eval o).run P w) (eff P (.call c) s.eval) := by
  have hargs : RepL σ (c.args.toList.map s.eval) (c.args.map a.eval).toList := by simpa using repL_ops hρ c.args.toList
  obtain ⟨callee, args, argTypes⟩ := c
  simp only at hargs
  cases callee with
  | invoke r m => simp only [eff, AOk]
  | value f =>
    simp only [eff]
    split
    · rename_i g first captured hf
      have hfr := hρ f
      rw [hf] at hfr; simp only [Rep] at hfr
      obtain ⟨x, y, h1, h2, h3⟩ := hfr
      simp only [AOk]
      refine ⟨x ++ (args.map a.eval).toList ++ y, (h1.append hargs).append h2, ?_⟩
      have he : (x ++ (args.map a.eval).toList ++ y).toArray = x.toArray ++ args.map a.eval ++ y.toArray := by apply Array.ext'; simp
      rw [he]
      simp only [execOp, hop, resolve, h3, Deferred.ofValue, invoke, Sem.run_bind, Sem.run_pure, Result.andThen_ok]
    · rename_i id hf
      have hfr := hρ f
      rw [hf] at hfr; simp only [Rep] at hfr
      obtain ⟨b, h1, h2⟩ := hfr
      simp only [AOk]
      refine ⟨(args.map a.eval).toList, b, hargs, h1, ?_⟩
      have he : (args.map a.eval).toList.toArray = args.map a.eval := Array.toArray_toList
      rw [he]
      simp [execOp, hop, resolve, h2, Deferred.ofValue, invoke]
    · simp only [AOk]
  | builtin b =>
    generalize hxs : args.toList.map s.eval = xs at hargs
    simp only [eff, hxs, builtinA]
    have hlenrun : b = .len → ∀ (aa : Option Addr) (n cap : Nat) (t e : TypeId), argTypes[0]? = some t → P.underlying t = some (.slice e) → (args.map a.eval)[0]? = some (.slice aa n cap) → (execOp a.eval o).run P w = .ok (.value (.int .i64 n)) w := by
      intro hbl aa n cap t e ht hu h0
      subst hbl
      simp only [execOp, hop, resolve, invoke, builtin, Builtin.len_, ht, h0, Sem.run_bind, Sem.run_pure, Result.andThen_ok, run_underlying hu, goInt]
    have hhead : ∀ (v : Value) (us : List Value), (args.map a.eval).toList = v :: us → (args.map a.eval)[0]? = some v := by
      intro v us h1
      have := congrArg (fun l => l[0]?) h1
      simpa using this
    split
    · rename_i id off st n cap
      simp only [RepL] at hargs
      obtain ⟨v, us, h1, h2, rfl⟩ := hargs
      simp only [Rep] at h2
      obtain ⟨hlen, _, b, h3, rfl⟩ := h2
      cases hb : isSliceO P argTypes[0]? with
      | false => simp only [cond_false, AOk]
      | true =>
        obtain ⟨t, e, ht, hu⟩ := isSliceO_spec hb
        simp only [cond_true, AOk]
        exact ⟨_, hlenrun rfl _ _ _ t e ht hu (hhead _ _ h1), rep_int ⟨by simp only [minK]; omega, hlen.1⟩⟩
    · rename_i c xs
      simp only [RepL] at hargs
      obtain ⟨v, us, h1, h2, rfl⟩ := hargs
      simp only [Rep] at h2
      cases hb : isSliceO P argTypes[0]? with
      | false => simp only [cond_false, AOk]
      | true =>
        obtain ⟨t, e, ht, hu⟩ := isSliceO_spec hb
        simp only [cond_true, AOk]
        rcases slD_cases h2 with ⟨rfl, rfl⟩ | ⟨b, o', sp, cap, us, rfl, h3, h4, _, _⟩
        · exact ⟨_, hlenrun rfl _ _ _ t e ht hu (hhead _ _ h1), rep_int ⟨by simp [minK], by simp [maxK]⟩⟩
        · exact ⟨_, hlenrun rfl _ _ _ t e ht hu (hhead _ _ h1), rep_int ⟨by simp only [minK]; omega, by omega⟩⟩
    · rename_i id
      simp only [RepL] at hargs
      obtain ⟨v, us, h1, h2, rfl⟩ := hargs
      simp only [Rep] at h2
      cases hb : isSliceO P argTypes[0]? with
      | false => simp only [cond_false, AOk]
      | true =>
        obtain ⟨t, e, ht, hu⟩ := isSliceO_spec hb
        simp only [cond_true, AOk]
        intro aa n cap hsv
        rw [h2.1] at hsv
        cases hsv
        exact hlenrun rfl _ _ _ t e ht hu (hhead _ _ h1)
    · simp only [RepL] at hargs
      obtain ⟨v, us, h1, h2, rfl⟩ := hargs
      simp only [Rep] at h2
      subst h2
      cases hb : isSliceO P argTypes[0]? with
      | false => simp only [cond_false, AOk]
      | true =>
        obtain ⟨t, e, ht, hu⟩ := isSliceO_spec hb
        simp only [cond_true, AOk]
        exact ⟨_, hlenrun rfl _ _ _ t e ht hu (hhead _ _ h1), rep_int ⟨by simp [minK], by simp [maxK]⟩⟩
    · rename_i x y
      simp only [RepL] at hargs
      obtain ⟨v, us, h1, h2, v', us', h1', h2', rfl⟩ := hargs
      subst h1'
      split
      · rename_i t u ht hu
        cases hbt : Nat.beq t u with
        | false => simp only [cond_false, AOk]
        | true =>
          have htu : t = u := by simpa using hbt
          subst htu
          simp only [cond_true]
          split
          · rename_i e hte
            split
            · rename_i sz by' z hs hby hz
              cases hb : (Nat.ble 1 sz && (decide (1 ≤ by') && Nat.beq (lenA z) sz)) with
              | false => simp only [cond_false, AOk]
              | true =>
                simp only [Bool.and_eq_true, Nat.ble_eq, decide_eq_true_eq, Nat.beq_eq, lenA_eq] at hb
                obtain ⟨hb1, hb2, hb3⟩ := hb
                simp only [cond_true, AOk]
                unfold bytesT at hby
                unfold sizeT at hs
                unfold zeroT at hz
                cases hie : P.info? e with
                | none => simp [hie] at hby
                | some ie =>
                  cases hiz : ie.zero with
                  | none => simp [hie, hiz] at hz
                  | some zv =>
                    simp [hie] at hby hs
                    simp [hie, hiz] at hz
                    have hzl : zv.cells.size = z.length := by rw [← hz]; simp
                    refine ⟨t, o.type, v, v', ie, zv, h2, h2', hte, rfl, hiz, hs, by omega, by omega, by omega, by omega, ?_⟩
                    have h0 : args.map a.eval = #[v, v'] := by apply Array.ext'; simpa using h1
                    have hat : argTypes[0]? = some t ∧ argTypes[1]? = some t := ⟨ht, hu⟩
                    simp only [execOp, hop, resolve, invoke, builtin, Sem.run_bind, Sem.run_pure, Result.andThen_ok, h0]
                    have key : ∀ tr, Builtin.append_ argTypes tr #[v, v'] = Builtin.append_ #[t, t] tr #[v, v'] := by
                      intro tr
                      simp only [Builtin.append_, ht, hu]
                      rfl
                    rw [key]
            · simp only [AOk]
          · simp only [AOk]
      · simp only [AOk]
    · rename_i k x l
      simp only [RepL] at hargs
      obtain ⟨v, us, h1, h2, h3⟩ := hargs
      simp only [Rep] at h2
      obtain ⟨rfl, hin⟩ := h2
      refine aok_opt fun y hy => ?_
      obtain ⟨r, hr1, hr2⟩ := max_run (w := w) (P := P) l us k x y hin h3 hy
      refine ⟨r, ?_, hr2⟩
      simp only [execOp, hop, resolve, invoke, builtin, Builtin.max_, h1, Sem.run_bind, Sem.run_pure, Result.andThen_ok, hr1]
    · rename_i k x l
      simp only [RepL] at hargs
      obtain ⟨v, us, h1, h2, h3⟩ := hargs
      simp only [Rep] at h2
      obtain ⟨rfl, hin⟩ := h2
      refine aok_opt fun y hy => ?_
      obtain ⟨r, hr1, hr2⟩ := min_run (w := w) (P := P) l us k x y hin h3 hy
      refine ⟨r, ?_, hr2⟩
      simp only [execOp, hop, resolve, invoke, builtin, Builtin.min_, h1, Sem.run_bind, Sem.run_pure, Result.andThen_ok, hr1]
    · simp only [AOk]

theorem run_bound {x : Value} {k : IntKind} {n : Int} (hx : x = .int k n) (y : Nat) (code : BoundsCode) (h : 0 ≤ n ∧ n ≤ y) (w : World) : (Instr.sliceBound x y code).run P w = .ok n.toNat w := by
  subst hx
  simp only [Instr.sliceBound, asIntOf, Sem.run_bind, Sem.run_pure, Result.andThen_ok, if_pos h]
theorem eff_slice (hρ : ∀ x, Rep σ (s.eval x) (a.eval x)) (o : Oper) (t : TypeId) (x : Operand) (lo hi mx : Option Operand) (hop : o.op = .slice t x lo hi mx) : AOk P σ w ((execOp a.eval o).run P w) (eff P (.slice t x lo hi mx) s.eval) := by
  have hx := hρ x
  simp only [eff]
  split
  · rename_i c xs e h hu
    rw [h] at hx; simp only [Rep] at hx
    have hat : ∀ lo hi : Option Value, Instr.sliceAt t (a.eval x) lo hi none = Instr.sliceAt t (a.eval x) lo hi none := fun _ _ => rfl
    have hres : ∀ (l h : Nat) (b o' : Nat) (sp : Option Nat) (cap : Nat) (us : List Value), l ≤ h → h ≤ xs.length → xs.length ≤ cap → (cap : Int) ≤ maxK .i64 → (us = [] ∨ sp = none) → Reads σ.mem b o' us → LR (RepD σ.mem c) xs us →
        Rep σ (.ro c ((xs.take h).drop l)) (.slice (if cap = l then some ⟨b, o', sp⟩ else some ((⟨b, o', sp⟩ : Addr).add (l * c.size))) (h - l) (cap - l)) := by
      intro l h b o' sp cap us h1 h2 h3 h4 hsp h5 h6
      have hlen : ((xs.take h).drop l).length = h - l := by simp; omega
      simp only [Rep]
      refine slD_mk (.inr ?_)
      have k1 := LR.take (fun x vs => RepD.len c x vs) h h6 h2
      have k2 := LR.drop (fun x vs => RepD.len c x vs) l k1 (by simp; omega)
      have k3 : Reads σ.mem b (o' + l * c.size) ((us.take (h * c.size)).drop (l * c.size)) := by
        rw [List.drop_take]; exact h5.sub _ _
      rw [hlen]
      by_cases hc : cap = l
      · subst hc
        rw [if_pos rfl]
        have e0 : h - cap = 0 := by omega
        have hnil : (xs.take h).drop cap = [] := List.eq_nil_of_length_eq_zero (by omega)
        rw [hnil] at k2 ⊢
        exact ⟨b, o', sp, _, [], rfl, by omega, by omega, ⟨.inl rfl, fun j u hj => by simp at hj⟩, by simp [LR]⟩
      · rw [if_neg hc, addr_add]
        exact ⟨b, o' + l * c.size, _, _, _, rfl, by omega, by omega, ⟨hsp.imp (fun e => by simp [e]) (fun e => by rw [e]; simp), k3⟩, k2⟩
    split
    · rename_i sz k hv hs hlo hhi
      cases hb : Nat.beq c.size sz with
      | false => simp only [cond_false, AOk]
      | true =>
        have hb' : c.size = sz := by simpa using hb
        subst hb'
        simp only [cond_true, AOk]
        intro ht
        have ht' := of_decide_eq_true ht
        obtain ⟨hio, rfl, hie⟩ := Option.map_eq_some_iff.1 hhi
        have hie' := hρ hio
        rw [hie] at hie'; simp only [Rep] at hie'
        have hlo' : lo = none := by cases lo <;> simp at hlo ⊢
        subst hlo'
        rcases slD_cases hx with ⟨h2, rfl⟩ | ⟨b, o', sp, cap, us, h2, h3, h4, ⟨hsp, h5⟩, h6⟩
        · refine ⟨.slice none 0 0, ?_, by simp only [Rep]; exact slD_mk (.inl ⟨rfl, by simp⟩)⟩
          have hz : hv.toNat = 0 := by simp at ht'; omega
          have hb0 := fun code => run_bound (P := P) hie'.1 0 code (by simp at ht' ⊢; omega) w
          simp only [execOp, hop, h2, Instr.sliceAt, Instr.slice, Instr.sliceBounds, Option.map_none, Option.map_some, Sem.run_bind, Sem.run_pure, Result.andThen_ok, run_underlying hu, run_size hs, hb0, hz]
          simp
        · have hb0 := fun code => run_bound (P := P) hie'.1 cap code (by omega) w
          have hr := hres 0 hv.toNat b o' sp cap us (by omega) (by omega) h3 h4 hsp h5 h6
          simp only [List.drop_zero] at hr
          refine ⟨_, ?_, hr⟩
          simp only [execOp, hop, h2, Instr.sliceAt, Instr.slice, Instr.sliceBounds, Option.map_none, Option.map_some, Sem.run_bind, Sem.run_pure, Result.andThen_ok, run_underlying hu, run_size hs, hb0]
    · rename_i sz k lv hs hlo hhi
      cases hb : Nat.beq c.size sz with
      | false => simp only [cond_false, AOk]
      | true =>
        have hb' : c.size = sz := by simpa using hb
        subst hb'
        simp only [cond_true, AOk]
        intro ht
        have ht' := of_decide_eq_true ht
        obtain ⟨loo, rfl, hle⟩ := Option.map_eq_some_iff.1 hlo
        have hle' := hρ loo
        rw [hle] at hle'; simp only [Rep] at hle'
        have hhi' : hi = none := by cases hi <;> simp at hhi ⊢
        subst hhi'
        rcases slD_cases hx with ⟨h2, rfl⟩ | ⟨b, o', sp, cap, us, h2, h3, h4, ⟨hsp, h5⟩, h6⟩
        · refine ⟨.slice none 0 0, ?_, by simp only [Rep]; exact slD_mk (.inl ⟨rfl, by simp⟩)⟩
          have hz : lv.toNat = 0 := by simp at ht'; omega
          have hb0 := fun code => run_bound (P := P) hle'.1 0 code (by simp at ht' ⊢; omega) w
          simp only [execOp, hop, h2, Instr.sliceAt, Instr.slice, Instr.sliceBounds, Option.map_none, Option.map_some, Sem.run_bind, Sem.run_pure, Result.andThen_ok, run_underlying hu, run_size hs, hb0, hz]
          simp
        · have hb0 := fun code => run_bound (P := P) hle'.1 xs.length code (by omega) w
          have hr := hres lv.toNat xs.length b o' sp cap us (by omega) (Nat.le_refl _) h3 h4 hsp h5 h6
          rw [List.take_length] at hr
          refine ⟨_, ?_, hr⟩
          simp only [execOp, hop, h2, Instr.sliceAt, Instr.slice, Instr.sliceBounds, Option.map_none, Option.map_some, Sem.run_bind, Sem.run_pure, Result.andThen_ok, run_underlying hu, run_size hs, hb0]
    · rename_i sz k lv k' hv hs hlo hhi
      cases hb : Nat.beq c.size sz with
      | false => simp only [cond_false, AOk]
      | true =>
        have hb' : c.size = sz := by simpa using hb
        subst hb'
        simp only [cond_true, AOk]
        intro ht
        have ht' := of_decide_eq_true ht
        obtain ⟨loo, rfl, hle⟩ := Option.map_eq_some_iff.1 hlo
        have hle' := hρ loo
        rw [hle] at hle'; simp only [Rep] at hle'
        obtain ⟨hio, rfl, hie⟩ := Option.map_eq_some_iff.1 hhi
        have hie' := hρ hio
        rw [hie] at hie'; simp only [Rep] at hie'
        rcases slD_cases hx with ⟨h2, rfl⟩ | ⟨b, o', sp, cap, us, h2, h3, h4, ⟨hsp, h5⟩, h6⟩
        · refine ⟨.slice none 0 0, ?_, by simp only [Rep]; exact slD_mk (.inl ⟨rfl, by simp⟩)⟩
          have hz : lv.toNat = 0 ∧ hv.toNat = 0 := by simp at ht'; omega
          have hb0 := fun code => run_bound (P := P) hie'.1 0 code (by simp at ht' ⊢; omega) w
          have hb1 := fun code => run_bound (P := P) hle'.1 0 code (by simp at ht' ⊢; omega) w
          simp only [execOp, hop, h2, Instr.sliceAt, Instr.slice, Instr.sliceBounds, Option.map_none, Option.map_some, Sem.run_bind, Sem.run_pure, Result.andThen_ok, run_underlying hu, run_size hs, hb0, hb1, hz.1, hz.2]
          simp
        · have hb0 := fun code => run_bound (P := P) hie'.1 cap code (by omega) w
          have hb1 := fun code => run_bound (P := P) hle'.1 hv.toNat code (by omega) w
          have hr := hres lv.toNat hv.toNat b o' sp cap us (by omega) (by omega) h3 h4 hsp h5 h6
          refine ⟨_, ?_, hr⟩
          simp only [execOp, hop, h2, Instr.sliceAt, Instr.slice, Instr.sliceBounds, Option.map_none, Option.map_some, Sem.run_bind, Sem.run_pure, Result.andThen_ok, run_underlying hu, run_size hs, hb0, hb1]
    · simp only [AOk]
  · rename_i id st col n e h hu
    rw [h] at hx; simp only [Rep] at hx
    obtain ⟨b, h1, h2⟩ := hx
    split
    · rename_i sz hs
      cases hb : (Nat.ble 1 n && Nat.ble n 65536) with
      | false => simp only [cond_false, AOk]
      | true =>
        simp only [Bool.and_eq_true, Nat.ble_eq] at hb
        simp only [cond_true, AOk]
        refine ⟨.slice (some ⟨b, col, none⟩) n n, ?_, by simp only [Rep, maxK]; exact ⟨⟨by omega, Nat.le_refl _⟩, by omega, b, h1, rfl⟩⟩
        have hn : ¬ n = 0 := by omega
        simp [execOp, hop, h2, Instr.sliceAt, Instr.sureAddr, Instr.sliceBounds, run_underlying hu, run_size hs, hn, Addr.add]
    · simp only [AOk]
  · simp only [AOk]

theorem eff_ok (hm : MemOk σ.mem w) (hρ : ∀ x, Rep σ (s.eval x) (a.eval x)) (o : Oper) : AOk P σ w ((execOp a.eval o).run P w) (eff P o.op s.eval) := by
  cases hop : o.op with
  | move x => simp only [eff, AOk]; exact ⟨_, by simp [execOp, hop], hρ x⟩
  | assign x => simp only [eff, AOk]; exact ⟨_, by simp [execOp, hop], hρ x⟩
  | pick c x y =>
    have hc := hρ c
    simp only [eff]
    split
    · rename_i b h1
      rw [h1] at hc; simp only [Rep] at hc
      cases b with
      | true =>
        simp only [cond_true, AOk]
        exact ⟨_, by simp [execOp, hop, hc, asBool], hρ x⟩
      | false =>
        simp only [cond_false, AOk]
        exact ⟨_, by simp [execOp, hop, hc, asBool], hρ y⟩
    · simp only [AOk]
  | alloc t => exact eff_alloc o t hop
  | box t x => exact eff_box hρ o t x hop
  | build t parts => exact eff_build hρ o t parts hop
  | buildSlice t len parts => exact eff_buildSlice hρ o t len parts hop
  | load t x => exact eff_load hm hρ o t x hop
  | store t x y => exact eff_store hρ o t x y hop
  | nilCheck x =>
    have hx := hρ x
    simp only [eff]
    split
    · rename_i id row st col h
      rw [h] at hx
      have hx' := hx
      simp only [Rep] at hx'
      obtain ⟨b, h1, h2⟩ := hx'
      simp only [AOk]
      exact ⟨.pointer (some ⟨b, row * st + col, none⟩), by simp [execOp, hop, h2], by simp only [Rep]; exact ⟨b, h1, rfl⟩⟩
    · rename_i c y col h
      rw [h] at hx
      have hx' := hx
      simp only [Rep] at hx'
      obtain ⟨b, o', vs, h1, h2, h3⟩ := hx'
      simp only [AOk]
      exact ⟨.pointer (some ⟨b, o' + col, none⟩), by simp [execOp, hop, h1], by simp only [Rep]; exact ⟨b, o', vs, rfl, h2, h3⟩⟩
    · rename_i f p q h
      rw [h] at hx
      have hx' := hx
      simp only [Rep] at hx'
      obtain ⟨u, v, h1, h2, h3⟩ := hx'
      simp only [AOk]
      exact ⟨.func (.func f) u.toArray v.toArray, by simp [execOp, hop, h3], by simp only [Rep]; exact ⟨u, v, h1, h2, rfl⟩⟩
    · rename_i id h
      rw [h] at hx
      have hx' := hx
      simp only [Rep] at hx'
      obtain ⟨b, h1, h2⟩ := hx'
      simp only [AOk]
      exact ⟨.func (.yield b) #[] #[], by simp [execOp, hop, h2], by simp only [Rep]; exact ⟨b, h1, rfl⟩⟩
    · simp only [AOk]
  | binOp op t x y ty => simp only [eff]; exact aok_bin op t x y ty o hop (hρ x) (hρ y)
  | unOp op t x => exact eff_un hρ o op t x hop
  | convert src dst x => exact eff_conv hρ o src dst x hop
  | makeFunc fn first captured =>
    simp only [eff, AOk]
    refine ⟨.func fn (first.map a.eval) (captured.map a.eval), by simp [execOp, hop, Instr.makeFunc], ?_⟩
    simp only [Rep]
    refine ⟨first.toList.map a.eval, captured.toList.map a.eval, repL_ops hρ _, repL_ops hρ _, ?_⟩
    congr 1 <;> (apply Array.ext'; simp)
  | makeInterface t x =>
    simp only [eff]
    split
    · simp only [AOk]
    · rename_i d hd hu
      simp only [AOk]
      refine ⟨.iface t (a.eval x), ?_, by simp only [Rep]; exact ⟨_, hρ x, rfl⟩⟩
      cases d with
      | interface m => exact (hd m rfl).elim
      | _ => simp only [execOp, hop, Instr.makeInterface, Sem.run_bind, run_underlying hu, Result.andThen_ok]; rfl
    · simp only [AOk]
  | defer c =>
    obtain ⟨callee, args, argTypes⟩ := c
    cases callee with
    | value f =>
      simp only [eff]
      split
      · rename_i g first captured hf
        have hfr := hρ f
        rw [hf] at hfr; simp only [Rep] at hfr
        obtain ⟨x, y, h1, h2, h3⟩ := hfr
        have hargs : RepL σ (args.toList.map s.eval) (args.map a.eval).toList := by simpa using repL_ops hρ args.toList
        simp only [AOk]
        refine ⟨_, ⟨x ++ (args.map a.eval).toList, y, h1.append hargs, h2, rfl⟩, ?_⟩
        have he : (x ++ (args.map a.eval).toList).toArray = x.toArray ++ args.map a.eval := by apply Array.ext'; simp
        rw [he]
        simp only [execOp, hop, resolve, h3, Deferred.ofValue, Sem.run_bind, Sem.run_pure, Result.andThen_ok]
      · simp only [AOk]
    | _ => simp only [eff, AOk]
  | panic x =>
    have hx := hρ x
    simp only [eff]
    split
    · rename_i t y h
      rw [h] at hx
      have hx' := hx
      simp only [Rep] at hx'
      obtain ⟨u, _, h2⟩ := hx'
      simp only [AOk]
      refine ⟨.iface t u, by rw [← h2]; exact hx, ?_⟩
      simp only [execOp, hop, h2, Instr.panic, goPanic, Sem.run_bind]
      rfl
    · simp only [AOk]
  | typeAssert x xt t ok =>
    have hx := hρ x
    cases ok with
    | false => simp only [eff, AOk]
    | true =>
      simp only [eff]
      split
      · rename_i u y d h hu
        rw [h] at hx; simp only [Rep] at hx
        obtain ⟨v, h1, h2⟩ := hx
        split
        · simp only [AOk]
        · rename_i hd
          cases hb : Nat.beq u t with
          | false => simp only [cond_false, AOk]
          | true =>
            have hut : u = t := by simpa using hb
            subst hut
            simp only [cond_true, AOk]
            refine ⟨.tuple #[v, .bool true], ?_, by simp only [Rep, RepL]; exact ⟨[v, .bool true], ⟨v, _, rfl, h1, _, _, rfl, rfl, rfl⟩, rfl⟩⟩
            cases d with
            | interface m => exact (hd m rfl).elim
            | _ => simp [execOp, hop, h2, Instr.typeAssert, run_underlying hu]
      · rename_i d h hu
        rw [h] at hx; simp only [Rep] at hx
        split
        · simp only [AOk]
        · rename_i hd
          have hfail : ∀ v : Value, (zeroValue t).run P w = .ok v w → (execOp a.eval o).run P w = .ok (.value (.tuple #[v, .bool false])) w := by
            intro v hv
            cases d with
            | interface m => exact (hd m rfl).elim
            | _ => simp [execOp, hop, hx, Instr.typeAssert, run_underlying hu, hv]
          split
          · rename_i k n hz
            cases hk : inKB k n with
            | false => simp only [cond_false, AOk]
            | true =>
              simp only [cond_true, AOk]
              have hv : (zeroValue t).run P w = .ok (.int k n) w := by
                cases hi : P.info? t with
                | none => simp [hi] at hz
                | some i => simp [hi] at hz; simp [zeroValue, typeInfo, hi, hz]
              refine ⟨.tuple #[.int k n, .bool false], hfail _ hv, by simp only [Rep, RepL]; exact ⟨[.int k n, .bool false], ⟨_, _, rfl, ⟨rfl, inKB_spec.1 hk⟩, _, _, rfl, rfl, rfl⟩, rfl⟩⟩
          · simp only [AOk]
      · simp only [AOk]
  | makeMap t r => cases r with
    | none => simp only [eff]; split <;> simp only [AOk]
    | some x => simp only [eff, AOk]
  | lookup t m k ok => simp only [eff]; split <;> simp only [AOk]
  | mapUpdate t m k x => simp only [eff]; split <;> simp only [AOk]
  | slice t x lo hi mx => exact eff_slice hρ o t x lo hi mx hop
  | fieldAddr t x i => exact eff_fieldAddr hρ o t x i hop
  | field t x i => exact eff_field hρ o t x i hop
  | indexAddr t x i => exact eff_indexAddr hρ o t x i hop
  | index t x i => exact eff_index hρ o t x i hop
  | makeSlice t l c =>
    have hl := hρ l
    have hc := hρ c
    simp only [eff]
    split
    · rename_i k1 l' k2 c' e h1 h2 hu
      rw [h1] at hl; rw [h2] at hc; simp only [Rep] at hl hc
      obtain ⟨hl, hl'⟩ := hl
      obtain ⟨hc, hc'⟩ := hc
      split
      · rename_i sz z by' hs hz hby
        cases hb : (Nat.ble 1 sz && Nat.beq (lenA z) sz) with
        | false => simp only [cond_false, AOk]
        | true =>
          simp only [Bool.and_eq_true, Nat.ble_eq, Nat.beq_eq, lenA_eq] at hb
          simp only [cond_true, AOk]
          intro ht
          obtain ⟨t1, t2, t3, t4⟩ := of_decide_eq_true ht
          obtain ⟨v, hv1, hv2⟩ := run_zero (σ := σ) hz w
          have hvl : v.cells.size = sz := by have := hv2.length; simp at this; omega
          unfold bytesT at hby
          cases hie : P.info? e with
          | none => simp [hie] at hby
          | some ie =>
            simp [hie] at hby
            subst hby
            have hsz : ie.size = sz := by unfold sizeT at hs; simp [hie] at hs; exact hs
            have w1 : IntKind.i64.wrap l' = l' := by unfold IntKind.wrap; simp [IntKind.bits, IntKind.signed]; split <;> omega
            have w2 : IntKind.i64.wrap c' = c' := by unfold IntKind.wrap; simp [IntKind.bits, IntKind.signed]; split <;> omega
            have hrep := zeros_rep (σ := σ) (n := c'.toNat * sz) hv2 hb.1 hb.2
            have hcells : (Array.range (c'.toNat * sz)).map (v.cells[· % v.cells.size]!) = ((List.range (c'.toNat * sz)).map (v.cells[· % v.cells.size]!)).toArray := by
              apply Array.ext'; simp
            have hrun : (execOp a.eval o).run P w = .ok (.value (.slice (some ⟨w.heap.size, 0, none⟩) l'.toNat c'.toNat)) (w.alloc (.cells ((List.range (c'.toNat * sz)).map (v.cells[· % v.cells.size]!)).toArray e)) := by
              have ht1 : ¬ (c' < 0 ∨ (ie.bytes : Int) * c' > 2 ^ 48) := by omega
              have hz0 : c'.toNat * sz = 0 → (Array.range (c'.toNat * sz)).map ((#[] : Array Value)[· % (#[] : Array Value).size]!) = (Array.range (c'.toNat * sz)).map (v.cells[· % v.cells.size]!) := by
                intro e; rw [e]; simp
              have hti : (typeInfo e).run P w = .ok ie w := by simp [typeInfo, hie]
              have c1 : (decide (c' < 0) || decide ((ie.bytes : Int) * c' > 2 ^ 48) || decide (l' < 0) || decide (l' > c')) = false := by simp; omega
              simp only [execOp, hop, hl, hc, Instr.makeSlice, asInt, asIntOf, Sem.run_bind, Sem.run_pure, Result.andThen_ok, run_underlying hu, hti, w1, w2, c1, Bool.false_eq_true, if_false, run_askRoom, run_size hs]
              by_cases h0 : c'.toNat * sz = 0
              · simp only [if_pos h0, Sem.run_pure, Result.andThen_ok, newRow, Sem.run_bind, run_newObj, hz0 h0, hcells]
                rfl
              · simp only [if_neg h0, Sem.run_bind, hv1, Sem.run_pure, Result.andThen_ok, newRow, run_newObj, hcells]
                rfl
            split
            · rename_i d hd
              split
              · rename_i x hx
                cases hds : Nat.beq d.size sz with
                | false => simp only [cond_false, AOk]
                | true =>
                  have hds' : d.size = sz := by simpa using hds
                  simp only [cond_true, AOk]
                  have hxr := dec_all hx hv2
                  have hzl := zeros_list hxr (by omega) l'.toNat
                  refine ⟨_, c'.toNat, by rw [List.length_replicate]; exact hrun, by simp [hds'], by simp; omega, by simp only [maxLen]; omega, by omega, ?_⟩
                  rw [List.length_replicate, hds', ← List.map_take, List.take_range, Nat.min_eq_left (Nat.mul_le_mul_right sz (by omega))]
                  rw [hds'] at hzl
                  rw [hvl]
                  have he : (fun j => v.cells.toList[j % sz]!) = fun j => v.cells[j % sz]! := by funext j; rw [List.getElem!_eq_getElem?_getD, Array.getElem!_eq_getD, Array.getD_eq_getD_getElem?, Array.getElem?_toList]
                  rw [he] at hzl
                  exact hzl
              · simp only [AOk]
            · simp only [AOk]
              refine ⟨_, .slice (some ⟨w.heap.size, 0, none⟩) l'.toNat c'.toNat, hrep, hrun, fun τ i _ hi => ?_⟩
              simp only [Rep]
              exact ⟨⟨by simp only [maxK]; omega, by omega⟩, by simp only [maxK]; omega, _, hi, by simp⟩
      · simp only [AOk]
    · simp only [AOk]
  | extract x i =>
    have hx := hρ x
    simp only [eff]
    split
    · rename_i vs h
      rw [h] at hx; simp only [Rep] at hx
      obtain ⟨us, h1, h2⟩ := hx
      refine aok_opt fun y hy => ?_
      rw [nth_eq] at hy
      obtain ⟨v, hv1, hv2⟩ := h1.get hy
      refine ⟨v, ?_, hv2⟩
      simp [execOp, hop, h2, Instr.extract, hv1]
    · simp only [AOk]
  | call c => exact eff_call hρ o c hop
  | _ => simp only [eff, AOk]
end
end V
end Go.Proofs.Ytmmhbianajpdgaa
