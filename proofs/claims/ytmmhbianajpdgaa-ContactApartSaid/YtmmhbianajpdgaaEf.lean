/- That the symbolic evaluator of the text Ea is sound: each operation. -/
import Derived.Test.YtmmhbianajpdgaaEc
namespace Go.Proofs.Ytmmhbianajpdgaa
open Go.RowKit
namespace Ev
section
variable {P : Program} {σ : Nat → Option Nat} {w : World} {a : Go.Act} {s : St}

theorem repL_ops (hρ : ∀ x, Rep σ (s.eval x) (a.eval x)) (l : List Operand) : RepL σ (l.map s.eval) (l.map a.eval) := RepL.map hρ l

theorem eff_build (hρ : ∀ x, Rep σ (s.eval x) (a.eval x)) (o : Oper) (t : TypeId) (parts : Array (Nat × Operand)) (hop : o.op = .build t parts) : AOk P σ w ((execOp a.eval o).run P w) (eff P (.build t parts) s.eval) := by
  simp only [eff]
  refine aok_opt fun x hx => ?_
  have hpl : (parts.toList.map fun p => (p.1, s.eval p.2)).length = (parts.map fun (i, x) => (i, a.eval x)).toList.length ∧ ∀ (i : Nat) (p : Nat × AV) (q : Nat × Value), (parts.toList.map fun p => (p.1, s.eval p.2))[i]? = some p → (parts.map fun (i, x) => (i, a.eval x)).toList[i]? = some q → p.1 = q.1 ∧ Rep σ p.2 q.2 := by
    refine ⟨by simp, fun i p q hp hq => ?_⟩
    simp only [Array.toList_map, List.getElem?_map] at hp hq
    cases hi : parts.toList[i]? with
    | none => simp [hi] at hp
    | some e =>
      simp [hi] at hp hq
      subst hp; subst hq
      exact ⟨rfl, hρ _⟩
  unfold buildA at hx
  cases hz : zeroT P t with
  | none => simp [hz] at hx
  | some z =>
    cases hu : P.underlying t with
    | none => simp [hz, hu] at hx
    | some d =>
      have hz' := hz
      unfold zeroT at hz'
      cases hit : P.info? t with
      | none => simp [hit] at hz'
      | some it =>
        cases hiz : it.zero with
        | none => simp [hit, hiz] at hz'
        | some zv =>
          simp [hit, hiz] at hz'
          have hzr : RepL σ z zv.cells.toList := by rw [← hz']; exact repL_ofCell σ _
          have key : ∀ cells, P.built t (parts.map fun (i, x) => (i, a.eval x)).toList = some cells → (execOp a.eval o).run P w = .ok (.value (.agg cells)) w := by
            intro cells hc
            unfold execOp
            simp only [hop, Sem.run_bind, run_build w t _ cells hc, Result.andThen_ok, Sem.run_pure]
          cases d <;> try (simp [hz, hu] at hx; done)
          case array n e =>
            cases hs : sizeT P e with
            | none => simp [hz, hu, hs] at hx
            | some sz =>
              simp only [hz, hu, hs, Option.map_eq_some_iff] at hx
              obtain ⟨r, hf, rfl⟩ := hx
              obtain ⟨us, h1, h2, _⟩ := fill_rep _ _ _ _ _ _ hzr hpl hf
              unfold sizeT at hs
              cases hie : P.info? e with
              | none => simp [hie] at hs
              | some ie =>
                simp [hie] at hs; subst hs
                refine ⟨_, key us.toArray ?_, by simp only [Rep]; exact ⟨us, h2, rfl⟩⟩
                unfold Program.built
                simp only [hit, hu, hiz, hie]
                simpa using h1
          case struct fields =>
            cases hp : placesA P fields.toList with
            | none => simp [hz, hu, hp] at hx
            | some places =>
              simp only [hz, hu, hp, Option.map_eq_some_iff] at hx
              obtain ⟨r, hf, rfl⟩ := hx
              have hpm : ∀ (fs : List Field) (pl : List (Nat × Nat)), placesA P fs = some pl → fs.mapM (fun f => (P.info? f.type).map fun i => (f.offset, i.size)) = some pl := by
                intro fs
                induction fs with
                | nil => intro pl h; simp [placesA] at h; subst h; rfl
                | cons f fs ih =>
                  intro pl h
                  simp only [placesA, sizeT] at h
                  cases hi : P.info? f.type with
                  | none => simp [hi] at h
                  | some i =>
                    cases hr : placesA P fs with
                    | none => simp [hi, hr] at h
                    | some r =>
                      simp [hi, hr] at h; subst h
                      simp [List.mapM_cons, hi, ih r hr]
              have hnth : nth places = (places.toArray[·]?) := by funext i; simp [nth_eq]
              rw [hnth] at hf
              obtain ⟨us, h1, h2, _⟩ := fill_rep _ _ _ _ _ _ hzr hpl hf
              refine ⟨_, key us.toArray ?_, by simp only [Rep]; exact ⟨us, h2, rfl⟩⟩
              unfold Program.built
              simp only [hit, hu, hiz, hpm _ _ hp]
              simpa using h1

theorem fdiv_in {k : IntKind} {a : Int} (h : inK k a) (n : Nat) : inK k (a.fdiv (2 ^ n)) := by
  have h0 : minK k ≤ 0 ∧ 0 ≤ maxK k := by cases k <;> simp [minK, maxK]
  obtain ⟨h1, h2⟩ := h
  have hp : (0 : Int) < 2 ^ n := Int.pow_pos (by decide)
  rw [Int.fdiv_eq_ediv_of_nonneg _ (Int.le_of_lt hp)]
  rcases Int.le_total 0 a with ha | ha
  · have k1 := Int.ediv_nonneg ha (Int.le_of_lt hp)
    have k2 := Int.ediv_le_self (2 ^ n) ha
    exact ⟨by omega, by omega⟩
  · have k1 : a ≤ a / 2 ^ n := by
      rw [Int.le_ediv_iff_mul_le hp]
      have : a * 2 ^ n ≤ a * 1 := Int.mul_le_mul_of_nonpos_left ha (by omega)
      omega
    have k2 : a / 2 ^ n ≤ 0 := Int.le_of_lt_add_one ((Int.ediv_lt_iff_lt_mul hp).2 (by simp; omega))
    exact ⟨by omega, by omega⟩
theorem aok_bin (op : BinOp) (t : TypeId) (xo yo : Operand) (ty : TypeId) (o : Oper) (hop : o.op = .binOp op t xo yo ty) {x y : AV} (hx : Rep σ x (a.eval xo)) (hy : Rep σ y (a.eval yo)) :
    AOk P σ w ((execOp a.eval o).run P w) (binA P op t x y) := by
  have hrun : (execOp a.eval o).run P w = ((eqGuard op t xo yo (a.eval xo) (a.eval yo)).run P w).andThen fun _ w' => ((do pure (Next.value (← binOp op t (a.eval xo) (a.eval yo))) : Sem Next).run P w') := by
    unfold execOp
    simp only [hop, Sem.run_bind]
    cases (eqGuard op t xo yo (a.eval xo) (a.eval yo)).run P w <;> rfl
  have hshift : ∀ (op' : BinOp) (k k' : IntKind) (m n : Int), inK k m → (op' = .shl ∨ op' = .shr) → op = op' → a.eval xo = .int k m → a.eval yo = .int k' n → AOk P σ w ((execOp a.eval o).run P w) (shiftA op' k m n) := by
    intro op' k k' m n hm hs ho h1 h2
    subst ho
    rw [hrun, h1, h2]
    rcases hs with rfl | rfl
    · simp only [shiftA, AOk]
      intro hb
      have hb' : ¬ n < 0 := by simpa using hb
      refine ⟨_, ?_, rep_wrap _ _⟩
      simp [eqGuard, binOp, Op.shift, hb']
    · simp only [shiftA, AOk]
      intro hb
      have hb' : ¬ n < 0 := by simpa using hb
      refine ⟨_, ?_, rep_int (fdiv_in hm _)⟩
      simp [eqGuard, binOp, Op.shift, hb']
  unfold binA
  split
  · simp only [Rep] at hx hy
    exact hshift .shl _ _ _ _ hx.2 (.inl rfl) rfl hx.1 hy.1
  · simp only [Rep] at hx hy
    exact hshift .shr _ _ _ _ hx.2 (.inr rfl) rfl hx.1 hy.1
  · rename_i k m k' n hn1 hn2
    simp only [Rep] at hx hy
    by_cases hk : k = k'
    · subst hk
      simp only [decide_true, cond_true]
      have h1 : op ≠ .shl := hn1
      have h2 : op ≠ .shr := hn2
      have hg : (eqGuard op t xo yo (.int k m) (.int k n)).run P w = .ok () w := by cases op <;> simp [eqGuard]
      rw [hrun, hx.1, hy.1, hg, Result.andThen_ok]
      exact aok_arith t op k m n hx.2 h1 h2
    · simp only [hk, decide_false, cond_false, AOk]
  · rename_i p q
    simp only [Rep] at hx hy
    split
    · rename_i hu
      simp only [cond_true, AOk]
      refine ⟨_, ?_, by simp only [Rep]; rfl⟩
      rw [hrun, hx, hy]
      have := run_equalIn_bool' (P := P) w 9999 t p q hu
      simp [eqGuard, binOp, Op.equal, Op.maxDepth, this]
    · simp only [cond_false, AOk]
  · rename_i p q
    simp only [Rep] at hx hy
    split
    · rename_i hu
      simp only [cond_true, AOk]
      refine ⟨_, ?_, by simp only [Rep]; rfl⟩
      rw [hrun, hx, hy]
      have := run_equalIn_bool' (P := P) w 9999 t p q hu
      simp [eqGuard, binOp, Op.equal, Op.maxDepth, this]
    · simp only [cond_false, AOk]
  · rename_i xs ys
    cases hm : P.eqGuardType P.depth t with
    | true => simp only [cond_true, AOk]
    | false =>
      simp only [cond_false]
      refine aok_yes fun b hb => ?_
      have h1 := run_eqA Op.maxDepth t _ _ b _ _ w hb hx hy
      simp only [Rep] at hx hy
      obtain ⟨us, hx1, hx2⟩ := hx
      obtain ⟨vs, hy1, hy2⟩ := hy
      rw [hrun, hx2, hy2, run_eqGuard_agg w _ t xo yo _ _ hm]
      rw [hx2, hy2] at h1
      simp [run_eql_struct, h1, show (10000 : Nat) = Op.maxDepth from rfl]
  · rename_i xs ys
    cases hm : P.eqGuardType P.depth t with
    | true => simp only [cond_true, AOk]
    | false =>
      simp only [cond_false]
      refine aok_not fun b hb => ?_
      have h1 := run_eqA Op.maxDepth t _ _ b _ _ w hb hx hy
      simp only [Rep] at hx hy
      obtain ⟨us, hx1, hx2⟩ := hx
      obtain ⟨vs, hy1, hy2⟩ := hy
      rw [hrun, hx2, hy2, run_eqGuard_agg w _ t xo yo _ _ hm]
      rw [hx2, hy2] at h1
      simp [run_neq_struct, h1, show (10000 : Nat) = Op.maxDepth from rfl]
  · simp only [AOk]

theorem eff_un (hρ : ∀ x, Rep σ (s.eval x) (a.eval x)) (o : Oper) (op : UnOp) (t : TypeId) (x : Operand) (hop : o.op = .unOp op t x) : AOk P σ w ((execOp a.eval o).run P w) (eff P (.unOp op t x) s.eval) := by
  have hx := hρ x
  simp only [eff, unA]
  split
  · rename_i k n h
    rw [h] at hx; simp only [Rep] at hx
    simp only [AOk]
    refine ⟨_, ?_, rep_wrap _ _⟩
    simp [execOp, hop, hx.1, Op.unary, Op.intArith]
  · rename_i b h
    rw [h] at hx; simp only [Rep] at hx
    simp only [AOk]
    refine ⟨_, ?_, by simp only [Rep]; rfl⟩
    simp [execOp, hop, hx, Op.unary]
  · simp only [AOk]

theorem eff_conv (hρ : ∀ x, Rep σ (s.eval x) (a.eval x)) (o : Oper) (src dst : TypeId) (x : Operand) (hop : o.op = .convert src dst x) : AOk P σ w ((execOp a.eval o).run P w) (eff P (.convert src dst x) s.eval) := by
  have hx := hρ x
  simp only [eff, convA]
  split
  · rename_i k0 k k' n hu1 hu2 h
    rw [h] at hx; simp only [Rep] at hx
    simp only [AOk]
    refine ⟨_, ?_, rep_wrap _ _⟩
    simp [execOp, hop, hx.1, convert, run_underlying hu1, run_underlying hu2, Conv.intToInt]
  · simp only [AOk]

theorem eff_field (hρ : ∀ x, Rep σ (s.eval x) (a.eval x)) (o : Oper) (t : TypeId) (x : Operand) (i : Nat) (hop : o.op = .field t x i) : AOk P σ w ((execOp a.eval o).run P w) (eff P (.field t x i) s.eval) := by
  have hx := hρ x
  simp only [eff]
  split
  · rename_i cs fs h hu
    rw [h] at hx; simp only [Rep] at hx
    obtain ⟨us, h1, h2⟩ := hx
    simp only [nth_eq]
    cases hf : fs.toList[i]? with
    | none => simp only [AOk]
    | some f =>
      refine aok_opt fun y hy => ?_
      obtain ⟨v, hv1, hv2⟩ := run_part h1 hy w
      refine ⟨v, ?_, hv2⟩
      have hf' : fs[i]? = some f := by simpa using hf
      simp [execOp, hop, h2, Instr.field, run_underlying hu, hf', asAgg, hv1]
  · simp only [AOk]

theorem eff_fieldAddr (hρ : ∀ x, Rep σ (s.eval x) (a.eval x)) (o : Oper) (t : TypeId) (x : Operand) (i : Nat) (hop : o.op = .fieldAddr t x i) : AOk P σ w ((execOp a.eval o).run P w) (eff P (.fieldAddr t x i) s.eval) := by
  have hx := hρ x
  simp only [eff]
  split
  · rename_i id row st col fs h hu
    rw [h] at hx; simp only [Rep] at hx
    obtain ⟨b, h1, h2⟩ := hx
    simp only [nth_eq]
    cases hf : fs.toList[i]? with
    | none => simp only [AOk]
    | some f =>
      simp only
      cases hs : sizeT P f.type with
      | none => simp only [AOk]
      | some sz =>
        simp only
        cases hz : Nat.beq sz 0 with
        | true => simp only [cond_true, AOk]
        | false =>
          have hz' : sz ≠ 0 := by intro e; subst e; simp at hz
          simp only [cond_false, AOk]
          refine ⟨.pointer (some ⟨b, row * st + (col + f.offset), none⟩), ?_, by simp only [Rep]; exact ⟨b, h1, rfl⟩⟩
          have hf' : fs[i]? = some f := by simpa using hf
          simp [execOp, hop, h2, Instr.fieldAt, run_underlying hu, hf', Instr.sureAddr, fieldPlace, run_size hs, hz', Addr.add_lit, Nat.add_assoc]
  · simp only [AOk]

theorem eff_indexAddr (hρ : ∀ x, Rep σ (s.eval x) (a.eval x)) (o : Oper) (t : TypeId) (x i : Operand) (hop : o.op = .indexAddr t x i) : AOk P σ w ((execOp a.eval o).run P w) (eff P (.indexAddr t x i) s.eval) := by
  have hx := hρ x
  have hi := hρ i
  simp only [eff]
  split
  · rename_i id row st col k n len e h h' hu
    rw [h] at hx; rw [h'] at hi; simp only [Rep] at hx hi
    replace hi := hi.1
    obtain ⟨b, h1, h2⟩ := hx
    cases hs : sizeT P e with
    | none => simp only [AOk]
    | some sz =>
      simp only [AOk]
      intro hb
      have hb' := of_decide_eq_true hb
      refine ⟨.pointer (some ⟨b, row * st + (col + n.toNat * sz), none⟩), ?_, by simp only [Rep]; exact ⟨b, h1, rfl⟩⟩
      simp [execOp, hop, h2, hi, Instr.indexAt, asIntOf, run_underlying hu, Instr.sureAddr, run_size hs, hb', Addr.add_lit, Nat.add_assoc]
  · rename_i id row st len cap k n e h h' hu
    rw [h] at hx; rw [h'] at hi; simp only [Rep] at hx hi
    replace hi := hi.1
    obtain ⟨_, _, b, h1, h2⟩ := hx
    cases hs : sizeT P e with
    | none => simp only [AOk]
    | some sz =>
      simp only
      cases hz : Nat.beq st sz with
      | false => simp only [cond_false, AOk]
      | true =>
        have hz' : st = sz := by simpa using hz
        subst hz'
        simp only [cond_true, AOk]
        intro hb
        have hb' := of_decide_eq_true hb
        refine ⟨.pointer (some ⟨b, (row + n.toNat) * st + 0, none⟩), ?_, by simp only [Rep]; exact ⟨b, h1, rfl⟩⟩
        simp [execOp, hop, h2, hi, Instr.indexAt, asIntOf, run_underlying hu, run_size hs, hb', Addr.add_lit, Nat.add_mul]
  · simp only [AOk]

theorem eff_index (hρ : ∀ x, Rep σ (s.eval x) (a.eval x)) (o : Oper) (t : TypeId) (x i : Operand) (hop : o.op = .index t x i) : AOk P σ w ((execOp a.eval o).run P w) (eff P (.index t x i) s.eval) := by
  have hx := hρ x
  have hi := hρ i
  simp only [eff]
  split
  · rename_i s0 k n h h' hu
    rw [h] at hx; rw [h'] at hi; simp only [Rep] at hx hi
    replace hi := hi.1
    simp only [AOk]
    intro hb
    have hb' := of_decide_eq_true hb
    have hlt : n.toNat < s0.size := by omega
    have hget : s0[n.toNat]? = some (s0.data.toList.getD n.toNat 0) := by
      have hlt' : n.toNat < s0.data.size := hlt
      rw [getElem?_pos s0 n.toNat hlt]
      congr 1
      simp only [List.getD, Array.getElem?_toList, Array.getElem?_eq_getElem hlt', Option.getD_some]
      rfl
    refine ⟨_, ?_, rep_int ⟨by simp only [minK]; omega, ?_⟩⟩
    · simp only [execOp, hop, hx, hi, Instr.index, asIntOf, Sem.run_bind, Sem.run_pure, Result.andThen_ok, run_underlying hu, if_pos hb'.1, hget]
    · have := UInt8.toNat_lt (s0.data.toList.getD n.toNat 0)
      simp only [maxK]; omega
  · rename_i cs k n len e h h' hu
    rw [h] at hx; rw [h'] at hi; simp only [Rep] at hx hi
    replace hi := hi.1
    obtain ⟨us, h1, h2⟩ := hx
    cases hs : sizeT P e with
    | none => simp only [AOk]
    | some sz =>
      simp only [AOk]
      intro hb
      have hb' := of_decide_eq_true hb
      refine aok_opt fun y hy => ?_
      obtain ⟨v, hv1, hv2⟩ := run_part h1 hy w
      refine ⟨v, ?_, hv2⟩
      simp [execOp, hop, h2, hi, Instr.index, asIntOf, run_underlying hu, run_size hs, hb', hv1]
  · simp only [AOk]

theorem eff_alloc (o : Oper) (t : TypeId) (hop : o.op = .alloc t) : AOk P σ w ((execOp a.eval o).run P w) (eff P (.alloc t) s.eval) := by
  simp only [eff]
  cases hz : zeroT P t with
  | none => simp only [AOk]
  | some z =>
    obtain ⟨v, h1, h2⟩ := run_zero (σ := σ) hz w
    simp only [AOk]
    refine ⟨v.cells.toList, .pointer (some ⟨w.heap.size, 0, none⟩), h2, ?_, fun τ i _ hi => ?_⟩
    · simp [execOp, hop, Instr.alloc, h1, newVar, newRow]
    · simp only [Rep]; exact ⟨_, hi, by simp⟩

theorem eff_box (hρ : ∀ x, Rep σ (s.eval x) (a.eval x)) (o : Oper) (t : TypeId) (x : Operand) (hop : o.op = .box t x) : AOk P σ w ((execOp a.eval o).run P w) (eff P (.box t x) s.eval) := by
  simp only [eff]
  cases hc : cellsA (s.eval x) with
  | none => simp only [AOk]
  | some cs =>
    have h2 := rep_cells (hρ x) hc
    simp only [AOk]
    refine ⟨(a.eval x).cells.toList, .pointer (some ⟨w.heap.size, 0, none⟩), h2, ?_, fun τ i _ hi => ?_⟩
    · simp [execOp, hop, Instr.box, newVar, newRow]
    · simp only [Rep]; exact ⟨_, hi, by simp⟩

theorem zeros_rep {σ : Nat → Option Nat} {z : List AV} {sz n : Nat} {v : Value} (h2 : RepL σ z v.cells.toList) (h1 : 1 ≤ sz) (hb3 : z.length = sz) : RepL σ (zerosA z sz n) ((List.range n).map (v.cells[· % v.cells.size]!)) := by
  have hvl : v.cells.size = sz := by have := h2.length; simp at this; omega
  refine repL_iff.2 ⟨by simp [zerosA], fun i x u hx hu => ?_⟩
  simp only [zerosA, List.getElem?_map] at hx hu
  cases hr : (List.range n)[i]? with
  | none => simp [hr] at hx
  | some j =>
    simp [hr] at hx hu
    have hj : j % sz < v.cells.toList.length := by simp [hvl]; exact Nat.mod_lt _ (by omega)
    have hjz : j % sz < z.length := by rw [h2.length]; exact hj
    rw [nth_eq, List.getElem?_eq_getElem hjz] at hx
    simp only at hx
    subst hx; subst hu
    refine (repL_iff.1 h2).2 (j % sz) _ _ (List.getElem?_eq_getElem hjz) ?_
    rw [hvl, getElem!_pos v.cells (j % sz) (by simpa using hj)]
    rw [List.getElem?_eq_getElem hj]
    simp

theorem eff_buildSlice (hρ : ∀ x, Rep σ (s.eval x) (a.eval x)) (o : Oper) (t : TypeId) (len : Nat) (parts : Array (Nat × Operand)) (hop : o.op = .buildSlice t len parts) : AOk P σ w ((execOp a.eval o).run P w) (eff P (.buildSlice t len parts) s.eval) := by
  simp only [eff]
  split
  · rename_i e hu
    split
    · rename_i sz z hs hz
      cases hb : (Nat.ble (len * sz) 4096 && (Nat.ble 1 (len * sz) && Nat.beq (lenA z) sz)) with
      | false => simp only [cond_false, AOk]
      | true =>
        simp only [Bool.and_eq_true, Nat.ble_eq, Nat.beq_eq, lenA_eq] at hb
        obtain ⟨hb1, hb2, hb3⟩ := hb
        simp only [cond_true]
        split
        · rename_i cs hf
          have hpl : (parts.toList.map fun p => (p.1, s.eval p.2)).length = (parts.map fun (i, x) => (i, a.eval x)).toList.length ∧ ∀ (i : Nat) (p : Nat × AV) (q : Nat × Value), (parts.toList.map fun p => (p.1, s.eval p.2))[i]? = some p → (parts.map fun (i, x) => (i, a.eval x)).toList[i]? = some q → p.1 = q.1 ∧ Rep σ p.2 q.2 := by
            refine ⟨by simp, fun i p q hp hq => ?_⟩
            simp only [Array.toList_map, List.getElem?_map] at hp hq
            cases hi : parts.toList[i]? with
            | none => simp [hi] at hp
            | some e =>
              simp [hi] at hp hq
              subst hp; subst hq
              exact ⟨rfl, hρ _⟩
          obtain ⟨v, h1, h2⟩ := run_zero (σ := σ) hz w
          have hvl : v.cells.size = sz := by have := h2.length; simp at this; omega
          have hs0 : sz ≠ 0 := by intro e; subst e; simp at hb2
          have hrep : RepL σ (zerosA z sz (len * sz)) ((List.range (len * sz)).map (v.cells[· % v.cells.size]!)) := by
            refine repL_iff.2 ⟨by simp [zerosA], fun i x u hx hu => ?_⟩
            simp only [zerosA, List.getElem?_map] at hx hu
            cases hr : (List.range (len * sz))[i]? with
            | none => simp [hr] at hx
            | some j =>
              simp [hr] at hx hu
              have hj : j % sz < v.cells.toList.length := by simp [hvl]; exact Nat.mod_lt _ (by omega)
              have hjz : j % sz < z.length := by rw [h2.length]; exact hj
              rw [nth_eq, List.getElem?_eq_getElem hjz] at hx
              simp only at hx
              subst hx; subst hu
              refine (repL_iff.1 h2).2 (j % sz) _ _ (List.getElem?_eq_getElem hjz) ?_
              rw [hvl, getElem!_pos v.cells (j % sz) (by simpa using hj)]
              rw [List.getElem?_eq_getElem hj]
              simp
          obtain ⟨us, h3, h4, _⟩ := fill_rep _ _ _ _ _ _ hrep hpl hf
          simp only [AOk]
          refine ⟨us, .slice (some ⟨w.heap.size, 0, none⟩) len len, h4, ?_, fun τ i _ hi => ?_⟩
          · have hbig : ¬ len * sz > 2 ^ 24 := by omega
            have h0 : ¬ len * sz = 0 := by omega
            have hcells : (Array.range (len * sz)).map (v.cells[· % v.cells.size]!) = ((List.range (len * sz)).map (v.cells[· % v.cells.size]!)).toArray := by
              apply Array.ext'; simp
            simp only [execOp, hop, Instr.buildSlice, Sem.run_bind, run_underlying hu, Result.andThen_ok, run_size hs, if_neg hbig, if_neg h0, h1, Sem.run_pure, hcells, h3, newRow, run_newObj]
            rfl
          · simp only [Rep]
            have : len ≤ len * sz := Nat.le_mul_of_pos_right len (by omega)
            refine ⟨?_, ?_, _, hi, by simp⟩ <;> (simp only [maxK]; omega)
        · simp only [AOk]
    · simp only [AOk]
  · simp only [AOk]

theorem max_run : ∀ (l : List AV) (vs : List Value) (k : IntKind) (x : Int) (y : AV), inK k x → RepL σ l vs → maxA k x l = some y → ∃ v, (vs.foldlM Builtin.max2 (.int k x)).run P w = .ok v w ∧ Rep σ y v
  | [], vs, k, x, y, hx, h, hm => by
    simp only [RepL] at h; subst h
    simp [maxA] at hm; subst hm
    exact ⟨_, rfl, rep_int hx⟩
  | z :: l, vs, k, x, y, hx, h, hm => by
    simp only [RepL] at h
    obtain ⟨v, us, rfl, h1, h2⟩ := h
    cases z <;> simp only [maxA] at hm <;> try (simp at hm; done)
    rename_i k' n
    by_cases hk : k = k'
    · subst hk
      simp only [decide_true, cond_true] at hm
      simp only [Rep] at h1
      obtain ⟨rfl, h1⟩ := h1
      obtain ⟨r, hr1, hr2⟩ := max_run l us k _ y (by unfold inK at *; omega) h2 hm
      refine ⟨r, ?_, hr2⟩
      simp only [List.foldlM_cons, Builtin.max2, Sem.run_bind, Sem.run_pure, Result.andThen_ok]
      rw [show (if n > x then n else x) = max x n by split <;> omega]
      exact hr1
    · simp [hk] at hm
theorem min_run : ∀ (l : List AV) (vs : List Value) (k : IntKind) (x : Int) (y : AV), inK k x → RepL σ l vs → minA k x l = some y → ∃ v, (vs.foldlM Builtin.min2 (.int k x)).run P w = .ok v w ∧ Rep σ y v
  | [], vs, k, x, y, hx, h, hm => by
    simp only [RepL] at h; subst h
    simp [minA] at hm; subst hm
    exact ⟨_, rfl, rep_int hx⟩
  | z :: l, vs, k, x, y, hx, h, hm => by
    simp only [RepL] at h
    obtain ⟨v, us, rfl, h1, h2⟩ := h
    cases z <;> simp only [minA] at hm <;> try (simp at hm; done)
    rename_i k' n
    by_cases hk : k = k'
    · subst hk
      simp only [decide_true, cond_true] at hm
      simp only [Rep] at h1
      obtain ⟨rfl, h1⟩ := h1
      obtain ⟨r, hr1, hr2⟩ := min_run l us k _ y (by unfold inK at *; omega) h2 hm
      refine ⟨r, ?_, hr2⟩
      simp only [List.foldlM_cons, Builtin.min2, Sem.run_bind, Sem.run_pure, Result.andThen_ok]
      rw [show (if n < x then n else x) = min x n by split <;> omega]
      exact hr1
    · simp [hk] at hm

theorem isSliceO_spec {o : Option TypeId} (h : isSliceO P o = true) : ∃ t e, o = some t ∧ P.underlying t = some (.slice e) := by
  cases o with
  | none => simp [isSliceO] at h
  | some t =>
    simp only [isSliceO] at h
    split at h
    · rename_i e hu; exact ⟨t, e, rfl, hu⟩
    · simp at h
theorem eff_call (hρ : ∀ x, Rep σ (s.eval x) (a.eval x)) (o : Oper) (c : Call) (hop : o.op = .call c) : AOk P σ w ((execOp a.eval o).run P w) (eff P (.call c) s.eval) := by
  have hargs : RepL σ (c.args.toList.map s.eval) (c.args.map a.eval).toList := by simpa using repL_ops hρ c.args.toList
  obtain ⟨callee, args, argTypes⟩ := c
  simp only at hargs
  cases callee with
  | invoke r m => simp only [eff, AOk]
  | value f =>
    simp only [eff]
    split
    · rename_i g first captured hf
      have hfr := hρ f
      rw [hf] at hfr; simp only [Rep] at hfr
      obtain ⟨x, y, h1, h2, h3⟩ := hfr
      simp only [AOk]
      refine ⟨x ++ (args.map a.eval).toList ++ y, (h1.append hargs).append h2, ?_⟩
      have he : (x ++ (args.map a.eval).toList ++ y).toArray = x.toArray ++ args.map a.eval ++ y.toArray := by apply Array.ext'; simp
      rw [he]
      simp only [execOp, hop, resolve, h3, Deferred.ofValue, invoke, Sem.run_bind, Sem.run_pure, Result.andThen_ok]
    · simp only [AOk]
  | builtin b =>
    generalize hxs : args.toList.map s.eval = xs at hargs
    simp only [eff, hxs, builtinA]
    split
    · rename_i id row st n cap
      simp only [RepL] at hargs
      obtain ⟨v, us, h1, h2, rfl⟩ := hargs
      simp only [Rep] at h2
      obtain ⟨hlen, _, b, h3, rfl⟩ := h2
      cases hb : isSliceO P argTypes[0]? with
      | false => simp only [cond_false, AOk]
      | true =>
        obtain ⟨t, e, ht, hu⟩ := isSliceO_spec hb
        simp only [cond_true, AOk]
        refine ⟨_, ?_, rep_int ⟨by simp only [minK]; omega, hlen⟩⟩
        have h0 : (args.map a.eval)[0]? = some (.slice (some ⟨b, row * st, none⟩) n cap) := by
          have := congrArg (fun l => l[0]?) h1
          simpa using this
        simp only [execOp, hop, resolve, invoke, builtin, Builtin.len_, ht, h0, Sem.run_bind, Sem.run_pure, Result.andThen_ok, run_underlying hu, goInt]
    · rename_i id row st n cap id' row' st' m cap'
      simp only [RepL] at hargs
      obtain ⟨v, us, h1, h2, v', us', h1', h2', rfl⟩ := hargs
      subst h1'
      unfold appA
      split
      · rename_i t u ht hu
        split
        · rename_i e e' hte hue
          split
          · rename_i sz hs
            cases hb : (Nat.beq st sz && (Nat.beq st' sz && (Nat.ble 1 sz && Nat.ble (n + m) cap))) with
            | false => simp only [cond_false, AOk]
            | true =>
              simp only [Bool.and_eq_true, Nat.beq_eq, Nat.ble_eq] at hb
              obtain ⟨rfl, rfl, hs1, hcap⟩ := hb
              simp only [Rep] at h2 h2'
              obtain ⟨hn, hcp, b, hb1, hb2⟩ := h2
              obtain ⟨hm, _, b', hb1', hb2'⟩ := h2'
              simp only [cond_true, AOk]
              have hnm : (n : Int) + m ≤ maxK .i64 := by omega
              refine ⟨trivial, hnm, hcp, fun b0 b0' ty ty' vs vs' e1 e2 k1 k2 k3 k4 k5 => ?_⟩
              rw [hb1] at e1; cases e1
              rw [hb1'] at e2; cases e2
              have h0 : (args.map a.eval)[0]? = some (.slice (some ⟨b, row * st', none⟩) n cap) := by
                have := congrArg (fun l => l[0]?) h1
                rw [hb2] at this; simpa using this
              have h0' : (args.map a.eval)[1]? = some (.slice (some ⟨b', row' * st', none⟩) m cap') := by
                have := congrArg (fun l => l[1]?) h1
                rw [hb2'] at this; simpa using this
              have hld := run_loads (P := P) (w := w) (b := b') (off := row' * st') (n := m * st') k2 (by rw [← Nat.add_mul]; exact k3)
              have hlen : ((vs'.drop (row' * st')).take (m * st')).length = m * st' := by simp; rw [Nat.add_mul] at k3; omega
              have hst := run_stores (P := P) b (row * st' + n * st') ty ((vs'.drop (row' * st')).take (m * st')) 0 vs w k1 (by rw [hlen]; rw [Nat.add_mul, Nat.add_mul] at k4; omega) k5
              simp only [execOp, hop, resolve, invoke, builtin, Builtin.append_, ht, hu, h0, h0', Sem.run_bind, Sem.run_pure, Result.andThen_ok, run_underlying hte, run_underlying hue, run_size hs, Builtin.lenOf, Bool.false_eq_true, if_false, Bool.not_false, if_true, if_pos hcap, Builtin.firstCells, hld, Addr.add_lit, Nat.add_mul]
              simp only [Nat.add_zero] at hst
              rw [hst]
              rfl
          · simp only [AOk]
        · simp only [AOk]
      · simp only [AOk]
    · rename_i k x l
      simp only [RepL] at hargs
      obtain ⟨v, us, h1, h2, h3⟩ := hargs
      simp only [Rep] at h2
      obtain ⟨rfl, hin⟩ := h2
      refine aok_opt fun y hy => ?_
      obtain ⟨r, hr1, hr2⟩ := max_run (w := w) (P := P) l us k x y hin h3 hy
      refine ⟨r, ?_, hr2⟩
      simp only [execOp, hop, resolve, invoke, builtin, Builtin.max_, h1, Sem.run_bind, Sem.run_pure, Result.andThen_ok, hr1]
    · rename_i k x l
      simp only [RepL] at hargs
      obtain ⟨v, us, h1, h2, h3⟩ := hargs
      simp only [Rep] at h2
      obtain ⟨rfl, hin⟩ := h2
      refine aok_opt fun y hy => ?_
      obtain ⟨r, hr1, hr2⟩ := min_run (w := w) (P := P) l us k x y hin h3 hy
      refine ⟨r, ?_, hr2⟩
      simp only [execOp, hop, resolve, invoke, builtin, Builtin.min_, h1, Sem.run_bind, Sem.run_pure, Result.andThen_ok, hr1]
    · simp only [AOk]

theorem eff_ok (hρ : ∀ x, Rep σ (s.eval x) (a.eval x)) (o : Oper) : AOk P σ w ((execOp a.eval o).run P w) (eff P o.op s.eval) := by
  cases hop : o.op with
  | move x => simp only [eff, AOk]; exact ⟨_, by simp [execOp, hop], hρ x⟩
  | assign x => simp only [eff, AOk]; exact ⟨_, by simp [execOp, hop], hρ x⟩
  | pick c x y =>
    have hc := hρ c
    simp only [eff]
    split
    · rename_i b h1
      rw [h1] at hc; simp only [Rep] at hc
      cases b with
      | true =>
        simp only [cond_true, AOk]
        exact ⟨_, by simp [execOp, hop, hc, asBool], hρ x⟩
      | false =>
        simp only [cond_false, AOk]
        exact ⟨_, by simp [execOp, hop, hc, asBool], hρ y⟩
    · simp only [AOk]
  | alloc t => exact eff_alloc o t hop
  | box t x => exact eff_box hρ o t x hop
  | build t parts => exact eff_build hρ o t parts hop
  | buildSlice t len parts => exact eff_buildSlice hρ o t len parts hop
  | load t x => exact eff_load hρ o t x hop
  | store t x y => exact eff_store hρ o t x y hop
  | nilCheck x =>
    have hx := hρ x
    simp only [eff]
    split
    · rename_i id row st col h
      rw [h] at hx
      have hx' := hx
      simp only [Rep] at hx'
      obtain ⟨b, h1, h2⟩ := hx'
      simp only [AOk]
      exact ⟨.pointer (some ⟨b, row * st + col, none⟩), by simp [execOp, hop, h2], by simp only [Rep]; exact ⟨b, h1, rfl⟩⟩
    · rename_i f p q h
      rw [h] at hx
      have hx' := hx
      simp only [Rep] at hx'
      obtain ⟨u, v, h1, h2, h3⟩ := hx'
      simp only [AOk]
      exact ⟨.func (.func f) u.toArray v.toArray, by simp [execOp, hop, h3], by simp only [Rep]; exact ⟨u, v, h1, h2, rfl⟩⟩
    · simp only [AOk]
  | binOp op t x y ty => simp only [eff]; exact aok_bin op t x y ty o hop (hρ x) (hρ y)
  | unOp op t x => exact eff_un hρ o op t x hop
  | convert src dst x => exact eff_conv hρ o src dst x hop
  | makeFunc fn first captured =>
    simp only [eff, AOk]
    refine ⟨.func fn (first.map a.eval) (captured.map a.eval), by simp [execOp, hop, Instr.makeFunc], ?_⟩
    simp only [Rep]
    refine ⟨first.toList.map a.eval, captured.toList.map a.eval, repL_ops hρ _, repL_ops hρ _, ?_⟩
    congr 1 <;> (apply Array.ext'; simp)
  | fieldAddr t x i => exact eff_fieldAddr hρ o t x i hop
  | field t x i => exact eff_field hρ o t x i hop
  | indexAddr t x i => exact eff_indexAddr hρ o t x i hop
  | index t x i => exact eff_index hρ o t x i hop
  | makeSlice t l c =>
    have hl := hρ l
    have hc := hρ c
    simp only [eff]
    split
    · rename_i k1 l' k2 c' e h1 h2 hu
      rw [h1] at hl; rw [h2] at hc; simp only [Rep] at hl hc
      obtain ⟨hl, hl'⟩ := hl
      obtain ⟨hc, hc'⟩ := hc
      split
      · rename_i sz z by' hs hz hby
        cases hb : (Nat.ble 1 sz && Nat.beq (lenA z) sz) with
        | false => simp only [cond_false, AOk]
        | true =>
          simp only [Bool.and_eq_true, Nat.ble_eq, Nat.beq_eq, lenA_eq] at hb
          simp only [cond_true, AOk]
          intro ht
          have ht' := of_decide_eq_true ht
          obtain ⟨t1, t2, t3, t4⟩ := ht'
          obtain ⟨v, hv1, hv2⟩ := run_zero (σ := σ) hz w
          have hvl : v.cells.size = sz := by have := hv2.length; simp at this; omega
          unfold bytesT at hby
          cases hie : P.info? e with
          | none => simp [hie] at hby
          | some ie =>
            simp [hie] at hby
            subst hby
            have hsz : ie.size = sz := by unfold sizeT at hs; simp [hie] at hs; exact hs
            have w1 : IntKind.i64.wrap l' = l' := by unfold IntKind.wrap; simp [IntKind.bits, IntKind.signed]; split <;> omega
            have w2 : IntKind.i64.wrap c' = c' := by unfold IntKind.wrap; simp [IntKind.bits, IntKind.signed]; split <;> omega
            have hrep := zeros_rep (σ := σ) (n := c'.toNat * sz) hv2 hb.1 hb.2
            refine ⟨_, .slice (some ⟨w.heap.size, 0, none⟩) l'.toNat c'.toNat, hrep, ?_, fun τ i _ hi => ?_⟩
            · have ht1 : ¬ (c' < 0 ∨ (ie.bytes : Int) * c' > 2 ^ 48) := by omega
              have hcells : (Array.range (c'.toNat * sz)).map (v.cells[· % v.cells.size]!) = ((List.range (c'.toNat * sz)).map (v.cells[· % v.cells.size]!)).toArray := by
                apply Array.ext'; simp
              have hz0 : c'.toNat * sz = 0 → (Array.range (c'.toNat * sz)).map ((#[] : Array Value)[· % (#[] : Array Value).size]!) = (Array.range (c'.toNat * sz)).map (v.cells[· % v.cells.size]!) := by
                intro e; rw [e]; simp
              have hti : (typeInfo e).run P w = .ok ie w := by simp [typeInfo, hie]
              have c1 : (decide (c' < 0) || decide ((ie.bytes : Int) * c' > 2 ^ 48) || decide (l' < 0) || decide (l' > c')) = false := by simp; omega
              simp only [execOp, hop, hl, hc, Instr.makeSlice, asInt, asIntOf, Sem.run_bind, Sem.run_pure, Result.andThen_ok, run_underlying hu, hti, w1, w2, c1, Bool.false_eq_true, if_false, run_askRoom, run_size hs]
              by_cases h0 : c'.toNat * sz = 0
              · simp only [if_pos h0, Sem.run_pure, Result.andThen_ok, newRow, Sem.run_bind, run_newObj, hz0 h0, hcells]
                rfl
              · simp only [if_neg h0, Sem.run_bind, hv1, Sem.run_pure, Result.andThen_ok, newRow, run_newObj, hcells]
                rfl
            · simp only [Rep]
              exact ⟨by simp only [maxK]; omega, by simp only [maxK]; omega, _, hi, by simp⟩
      · simp only [AOk]
    · simp only [AOk]
  | extract x i =>
    have hx := hρ x
    simp only [eff]
    split
    · rename_i vs h
      rw [h] at hx; simp only [Rep] at hx
      obtain ⟨us, h1, h2⟩ := hx
      refine aok_opt fun y hy => ?_
      rw [nth_eq] at hy
      obtain ⟨v, hv1, hv2⟩ := h1.get hy
      refine ⟨v, ?_, hv2⟩
      simp [execOp, hop, h2, Instr.extract, hv1]
    · simp only [AOk]
  | call c => exact eff_call hρ o c hop
  | _ => simp only [eff, AOk]
end
end Ev
end Go.Proofs.Ytmmhbianajpdgaa
