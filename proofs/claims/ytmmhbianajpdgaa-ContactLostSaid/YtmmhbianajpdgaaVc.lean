/- That the symbolic evaluator of the text Ea is sound, second part: one operation. -/
import Derived.Test.YtmmhbianajpdgaaVb
import Derived.ChangeKeysEq
namespace Go.Proofs.Ytmmhbianajpdgaa
open Go.RowKit
namespace V

section
variable {P : Program}

theorem run_eqF {σ : Env} {d : Nat} {eq : TypeId → AV → AV → Option Bool} (H : ∀ (t : TypeId) (x y : AV) (p : Bool) (u v : Value) (w : World), eq t x y = some p → Rep σ x u → Rep σ y v → (Op.equalIn d t u v).run P w = .ok p w) : ∀ (fs : List Field) (xs ys : List AV) (p : Bool) (us vs : List Value) (w : World), eqF P eq fs xs ys = some p → RepL σ xs us → RepL σ ys vs → (Op.eqFields d us.toArray vs.toArray fs).run P w = .ok p w
  | [], _, _, p, _, _, w, h, _, _ => by simp [eqF] at h; subst h; rfl
  | f :: fs, xs, ys, p, us, vs, w, h, hx, hy => by
    unfold eqF at h
    by_cases hn : f.name = "_"
    · simp [hn] at h
    · simp only [hn, decide_false, cond_false] at h
      cases ha : partA P f.type xs f.offset with
      | none => simp [ha] at h
      | some a =>
        cases hb : partA P f.type ys f.offset with
        | none => simp [ha, hb] at h
        | some b =>
          simp only [ha, hb] at h
          cases hq : eq f.type a b with
          | none => simp [hq] at h
          | some q =>
            cases hr : eqF P eq fs xs ys with
            | none => simp [hq, hr] at h
            | some r =>
              simp [hq, hr] at h
              obtain ⟨a', h1, h2⟩ := run_part hx ha w
              obtain ⟨b', h3, h4⟩ := run_part hy hb w
              have h5 := H f.type a b q a' b' w hq h2 h4
              have h6 := run_eqF H fs xs ys r us vs w hr hx hy
              simp only [Op.eqFields, ne_eq, hn, not_false_eq_true, if_true, Sem.run_bind, h1, h3, h5, Result.andThen_ok, Sem.run_ite, h6]
              subst h
              cases q <;> simp
theorem run_eqI {σ : Env} {d c : Nat} {e : TypeId} {eq : TypeId → AV → AV → Option Bool} (H : ∀ (t : TypeId) (x y : AV) (p : Bool) (u v : Value) (w : World), eq t x y = some p → Rep σ x u → Rep σ y v → (Op.equalIn d t u v).run P w = .ok p w) : ∀ (is : List Nat) (xs ys : List AV) (p : Bool) (us vs : List Value) (w : World), eqI P eq e c xs ys is = some p → RepL σ xs us → RepL σ ys vs → (Op.eqItems d e c us.toArray vs.toArray is).run P w = .ok p w
  | [], _, _, p, _, _, w, h, _, _ => by simp [eqI] at h; subst h; rfl
  | i :: is, xs, ys, p, us, vs, w, h, hx, hy => by
    unfold eqI at h
    cases ha : partA P e xs (i * c) with
    | none => simp [ha] at h
    | some a =>
      cases hb : partA P e ys (i * c) with
      | none => simp [ha, hb] at h
      | some b =>
        simp only [ha, hb] at h
        cases hq : eq e a b with
        | none => simp [hq] at h
        | some q =>
          cases hr : eqI P eq e c xs ys is with
          | none => simp [hq, hr] at h
          | some r =>
            simp [hq, hr] at h
            obtain ⟨a', h1, h2⟩ := run_part hx ha w
            obtain ⟨b', h3, h4⟩ := run_part hy hb w
            have h5 := H e a b q a' b' w hq h2 h4
            have h6 := run_eqI H is xs ys r us vs w hr hx hy
            simp only [Op.eqItems, Sem.run_bind, h1, h3, h5, Result.andThen_ok, Sem.run_ite, h6]
            subst h
            cases q <;> simp
theorem run_eqA {σ : Env} : ∀ (d : Nat) (t : TypeId) (x y : AV) (p : Bool) (u v : Value) (w : World), eqA P d t x y = some p → Rep σ x u → Rep σ y v → (Op.equalIn d t u v).run P w = .ok p w
  | 0, _, _, _, _, _, _, _, h, _, _ => by simp [eqA] at h
  | d + 1, t, x, y, p, u, v, w, h, hx, hy => by
    unfold eqA at h
    split at h
    · rename_i a b hu
      simp only [Rep] at hx hy
      subst hx; subst hy
      simp at h; subst h
      exact run_equalIn_bool' w d t _ _ hu
    · rename_i k0 k a k' b hu
      simp only [Rep] at hx hy
      obtain ⟨rfl, _⟩ := hx
      obtain ⟨rfl, _⟩ := hy
      by_cases hk : k = k'
      · subst hk
        simp at h; subst h
        exact run_equalIn_int w d t k _ _ _ hu
      · simp [hk] at h
    · rename_i fs xs ys hu
      simp only [Rep] at hx hy
      obtain ⟨us, hx1, rfl⟩ := hx
      obtain ⟨vs, hy1, rfl⟩ := hy
      cases hp : P.stoodInHeld t with
      | true => simp [hp] at h
      | false =>
        simp only [hp, cond_false] at h
        have hf : P.fieldsOf t = fs := by simp [Program.fieldsOf, hu]
        rw [run_equalIn_struct w d t _ _ (by rw [hf]; exact hu) hp, hf]
        exact run_eqF (run_eqA d) fs.toList xs ys p us vs w h hx1 hy1
    · rename_i n e xs ys hu
      simp only [Rep] at hx hy
      obtain ⟨us, hx1, rfl⟩ := hx
      obtain ⟨vs, hy1, rfl⟩ := hy
      cases hi : P.info? e with
      | none => simp [hi] at h
      | some inf =>
        simp only [hi] at h
        have hc : P.cellsOf e = inf.size := by simp [Program.cellsOf, hi]
        rw [run_equalIn_array w d _ _ hu hi, hc]
        exact run_eqI (run_eqA d) (List.range n) xs ys p us vs w h hx1 hy1
    · simp at h
end

/-- what one operation's run has to be, for what the evaluator makes of it -/
def RepDf (σ : Env) : DfA → Deferred → Prop
  | .call f args cap, D => ∃ (us ks : List Value), RepL σ args us ∧ RepL σ cap ks ∧ D = { target := .fn (.func f) ks.toArray, args := us.toArray }
  | .mark id, D => ∃ b, σ id = some b ∧ D = { target := .collected b, args := #[] }
theorem RepDf.mono {σ τ : Env} (e : Ext σ τ) {d : DfA} {D : Deferred} (h : RepDf σ d D) : RepDf τ d D := by
  cases d with
  | call f args cap => obtain ⟨us, ks, h1, h2, h3⟩ := h; exact ⟨us, ks, h1.mono e, h2.mono e, h3⟩
  | mark id => obtain ⟨b, h1, h2⟩ := h; exact ⟨b, e.1 _ _ h1, h2⟩
def AOk (P : Program) (σ : Env) (w : World) (r : Result Next) : Eff → Prop
  | .val x => ∃ v, r = .ok (.value v) w ∧ Rep σ x v
  | .load id row st col n agg => (agg = false → n = 1) ∧ ∀ (b : Nat) (ty : TypeId) (vs : List Value), σ id = some b → w.heap[b]? = some (.cells vs.toArray ty (0, 0)) → row * st + col + n ≤ vs.length →
      r = .ok (.value (if agg then .agg ((vs.drop (row * st + col)).take n).toArray else vs.getD (row * st + col) undef)) w
  | .store id row st col xs => ∃ us, RepL σ xs us ∧ ∀ (b : Nat) (ty : TypeId) (vs : List Value), σ id = some b → w.heap[b]? = some (.cells vs.toArray ty (0, 0)) → row * st + col + us.length ≤ vs.length →
      r = .ok .skip (w.setRow b (setsA vs (row * st + col) us).toArray)
  | .alloc blk mk => ∃ (us : List Value) (v : Value), RepL σ blk.cs us ∧ r = .ok (.value v) (w.alloc (.cells us.toArray blk.ty)) ∧ ∀ (τ : Env) (i : Nat), Ext σ τ → τ i = some w.heap.size → Rep τ (mk i) v
  | .list ty c xs => ∃ (us : List Value) (cap : Nat), r = .ok (.value (.slice (some ⟨w.heap.size, 0, none⟩) xs.length cap)) (w.alloc (.cells us.toArray ty)) ∧ us.length = cap * c.size ∧ xs.length ≤ cap ∧ cap ≤ maxLen ∧ 0 < c.size ∧ LR (RepD σ.mem c) xs (us.take (xs.length * c.size))
  | .app ty bytes st _ dst src => ∃ (t tr : TypeId) (v u : Value) (i : TypeInfo) (z : Value), Rep σ dst v ∧ Rep σ src u ∧ P.underlying t = some (.slice ty) ∧ P.info? ty = some i ∧ i.zero = some z ∧ i.size = st ∧ i.bytes = bytes ∧ z.cells.size = st ∧ 0 < st ∧ 1 ≤ bytes ∧
      r = (do pure (Next.value (← Builtin.append_ #[t, t] tr #[v, u])) : Sem Next).run P w
  | .idx id st n => ∀ (b len cap : Nat), σ.sv id = some (.slice (some ⟨b, 0, none⟩) len cap) → 0 ≤ n → n < len → r = .ok (.value (.pointer (some ⟨b, n.toNat * st, none⟩))) w
  | .len id => ∀ (a : Option Addr) (n cap : Nat), σ.sv id = some (.slice a n cap) → r = .ok (.value (.int .i64 n)) w
  | .call f xs => ∃ us : List Value, RepL σ xs us ∧ r = (callFunc f us.toArray).run P w
  | .round id xs => ∃ (us : List Value) (b : Nat), RepL σ xs us ∧ σ id = some b ∧ r = (Instr.yield b us.toArray).run P w
  | .dfr d => ∃ D, RepDf σ d D ∧ r = .ok (.defer D) w
  | .panic x => ∃ v, Rep σ x v ∧ r = .halt (.panic v) w
  | .test c a => c = true → AOk P σ w r a
  | _ => True

section
variable {P : Program}
theorem aok_opt {σ : Env} {w : World} {r : Result Next} {o : Option AV} (h : ∀ x, o = some x → ∃ v, r = .ok (.value v) w ∧ Rep σ x v) : AOk P σ w r (ofOpt o) := by
  cases o with
  | none => simp [ofOpt, AOk]
  | some x => simp only [ofOpt, AOk]; exact h x rfl
theorem aok_yes {σ : Env} {w : World} {r : Result Next} {o : Option Bool} (h : ∀ b, o = some b → r = .ok (.value (.bool b)) w) : AOk P σ w r (yesA o) := by
  cases o with
  | none => simp [yesA, AOk]
  | some b => simp only [yesA, AOk, Rep]; exact ⟨_, h b rfl, rfl⟩
theorem aok_not {σ : Env} {w : World} {r : Result Next} {o : Option Bool} (h : ∀ b, o = some b → r = .ok (.value (.bool (!b))) w) : AOk P σ w r (notA o) := by
  cases o with
  | none => simp [notA, AOk]
  | some b => simp only [notA, AOk, Rep]; exact ⟨_, h b rfl, rfl⟩

theorem emod_le_self' (a b : Int) (ha : 0 ≤ a) : a % b ≤ a := by
  have key : ∀ c : Int, 0 < c → a % c ≤ a := by
    intro c hc
    have h1 := Int.mul_ediv_add_emod a c
    have h2 := Int.mul_nonneg (Int.le_of_lt hc) (Int.ediv_nonneg ha (Int.le_of_lt hc))
    omega
  rcases Int.lt_trichotomy b 0 with h | h | h
  · rw [← Int.emod_neg]; exact key (-b) (by omega)
  · subst h; simp
  · exact key b h
theorem tmod_in {k : IntKind} {a b : Int} (h : inK k a) : inK k (a.tmod b) := by
  have h0 : minK k ≤ 0 ∧ 0 ≤ maxK k := by cases k <;> simp [minK, maxK]
  obtain ⟨h1, h2⟩ := h
  rcases Int.le_total 0 a with ha | ha
  · have k1 := Int.tmod_nonneg b ha
    have k2 : a.tmod b ≤ a := by rw [Int.tmod_eq_emod_of_nonneg ha]; exact emod_le_self' a b ha
    exact ⟨by omega, by omega⟩
  · have e : a.tmod b = -((-a).tmod b) := by rw [Int.neg_tmod, Int.neg_neg]
    have k1 := Int.tmod_nonneg b (show 0 ≤ -a by omega)
    have k2 : (-a).tmod b ≤ -a := by rw [Int.tmod_eq_emod_of_nonneg (by omega)]; exact emod_le_self' (-a) b (by omega)
    rw [e]
    exact ⟨by omega, by omega⟩
theorem aok_arith {σ : Env} {w : World} (t : TypeId) (op : BinOp) (k : IntKind) (a b : Int) (ha : inK k a) (h1 : op ≠ .shl) (h2 : op ≠ .shr) :
    AOk P σ w ((do pure (Next.value (← binOp op t (.int k a) (.int k b))) : Sem Next).run P w) (arithA op k a b) := by
  cases op <;> simp only [arithA, AOk, ne_eq, reduceCtorEq, not_true_eq_false, not_false_eq_true] at h1 h2 ⊢
  all_goals first
    | (intro hb
       have hb' : b ≠ 0 := by simpa using hb
       first
         | (refine ⟨_, ?_, rep_wrap _ _⟩
            simp [binOp, Op.intDiv, hb']; done)
         | (refine ⟨_, ?_, rep_int (tmod_in ha)⟩
            simp [binOp, Op.intDiv, hb']; done))
    | (refine ⟨_, ?_, rep_wrap _ _⟩
       simp [binOp, Op.intArith, Op.intBits]; done)
    | (refine ⟨_, ?_, rep_bool _⟩
       simp [binOp, Op.intCmp]; done)
    | trivial

theorem run_stores (g o : Nat) (t : TypeId) : ∀ (us : List Value) (i : Nat) (cur : List Value) (w : World), w.heap[g]? = some (.cells cur.toArray t (0, 0)) → o + i + us.length ≤ cur.length → (∀ v ∈ us, v.oneCell' = true) →
    (storeCells ⟨g, o, none⟩ us i).run P w = .ok () (w.setRow g (setsA cur (o + i) us).toArray)
  | [], i, cur, w, hg, _, _ => by
    simp only [storeCells, setsA]
    rw [setRow_self w g cur.toArray t (0, 0) hg]
    rfl
  | v :: us, i, cur, w, hg, hl, h1 => by
    have hi : o + i < cur.length := by simp at hl; omega
    have hadd : (⟨g, o, none⟩ : Addr).add i = ⟨g, o + i, none⟩ := by unfold Addr.add; split <;> simp_all
    have hcell : w.cell? ⟨g, o + i, none⟩ = some cur[o + i] := by simp [World.cell?, hg, hi]
    have hfro : w.frozen? ⟨g, o + i, none⟩ = false := by simp [World.frozen?, hg]
    have hst : (store ((⟨g, o, none⟩ : Addr).add i) v).run P w = .ok () (w.setRow g (cur.set (o + i) v).toArray) := by
      rw [hadd, run_store P w _ v _ (h1 v (by simp)), hcell]
      simp [hfro, setCell_eq_setRow w g (o + i) cur.toArray t (0, 0) v hg]
    have hh := setRow_heap w g cur.toArray (cur.set (o + i) v).toArray t (0, 0) hg
    have ih := run_stores g o t us (i + 1) (cur.set (o + i) v) _ hh (by simp at hl ⊢; omega) (fun x hx => h1 x (by simp [hx]))
    simp only [storeCells, Sem.run_bind, hst, Result.andThen_ok, ih, setRow_setRow, setsA, setA_eq]
    rfl

theorem run_loads {w : World} {b off n : Nat} {ty : TypeId} {vs : List Value} (hw : w.heap[b]? = some (.cells vs.toArray ty (0, 0))) (hl : off + n ≤ vs.length) :
    (loadCells ⟨b, off, none⟩ n).run P w = .ok ((vs.drop off).take n).toArray w := by
  have hlen : ((vs.drop off).take n).length = n := by simp; omega
  have := run_loadCells_list (P := P) w ⟨b, off, none⟩ ((vs.drop off).take n) (fun j v hv => by
    have hadd : (⟨b, off, none⟩ : Addr).add j = ⟨b, off + j, none⟩ := by unfold Addr.add; split <;> simp_all
    rw [hadd, cell_of_row w b (off + j) vs.toArray ty (0, 0) hw]
    rw [List.getElem?_take] at hv
    split at hv
    · rw [List.getElem?_drop] at hv; simpa using hv
    · simp at hv)
  rw [hlen] at this
  exact this
theorem run_load1 {w : World} {b off : Nat} {ty : TypeId} {vs : List Value} (hw : w.heap[b]? = some (.cells vs.toArray ty (0, 0))) (hl : off + 1 ≤ vs.length) :
    (load ⟨b, off, none⟩).run P w = .ok (vs.getD off undef) w := by
  rw [run_load, cell_of_row w b off vs.toArray ty (0, 0) hw]
  simp [show off < vs.length by omega, List.getD]

theorem all_one {σ : Env} {xs : List AV} {vs : List Value} (h : RepL σ xs vs) (ho : xs.all one = true) : ∀ v ∈ vs, v.oneCell' = true := by
  intro v hv
  obtain ⟨i, hi, rfl⟩ := List.getElem_of_mem hv
  have hx : i < xs.length := by rw [h.length]; exact hi
  exact one_cell ((repL_iff.1 h).2 i xs[i] vs[i] (List.getElem?_eq_getElem hx) (List.getElem?_eq_getElem hi)) (List.all_eq_true.1 ho _ (List.getElem_mem hx))

variable {σ : Env} {w : World} {a : Go.Act} {s : St}

def MemOk (mem : Nat → Nat → Option Value) (w : World) : Prop := ∀ (b o : Nat) (v : Value), mem b o = some v → w.cell? ⟨b, o, none⟩ = some v
theorem run_reads {mem : Nat → Nat → Option Value} (hm : MemOk mem w) {b o col n : Nat} {vs : List Value} (h : Reads mem b o vs) (hl : col + n ≤ vs.length) :
    (loadCells ⟨b, o + col, none⟩ n).run P w = .ok ((vs.drop col).take n).toArray w := by
  have hlen : ((vs.drop col).take n).length = n := by simp; omega
  have := run_loadCells_list (P := P) w ⟨b, o + col, none⟩ ((vs.drop col).take n) (fun j v hv => by
    have hadd : (⟨b, o + col, none⟩ : Addr).add j = ⟨b, o + (col + j), none⟩ := by unfold Addr.add; split <;> simp_all [Nat.add_assoc]
    rw [hadd]
    refine hm _ _ _ (h _ _ ?_)
    rw [List.getElem?_take] at hv
    split at hv
    · rw [List.getElem?_drop] at hv; simpa using hv
    · simp at hv)
  rw [hlen] at this
  exact this
theorem run_read1 {mem : Nat → Nat → Option Value} (hm : MemOk mem w) {b o col : Nat} {vs : List Value} {v : Value} (h : Reads mem b o vs) (hl : vs[col]? = some v) :
    (load ⟨b, o + col, none⟩).run P w = .ok v w := by
  rw [run_load, hm _ _ _ (h _ _ hl)]
theorem eff_load (hm : MemOk σ.mem w) (hρ : ∀ x, Rep σ (s.eval x) (a.eval x)) (o : Oper) (t : TypeId) (x : Operand) (hop : o.op = .load t x) : AOk P σ w ((execOp a.eval o).run P w) (eff P (.load t x) s.eval) := by
  have hx := hρ x
  simp only [eff]
  split
  · rename_i id row st col n h1 h2 h3
    rw [h1] at hx
    simp only [Rep] at hx
    obtain ⟨b, hb, hav⟩ := hx
    simp only [AOk]
    refine ⟨by simp, fun b' ty vs hσ hw hl => ?_⟩
    rw [hb] at hσ; cases hσ
    simp [execOp, hop, hav, Instr.loadAt, Instr.sureAddr, loadVar, run_agg h2, run_size h3, run_loads hw hl]
  · rename_i id row st col h1 h2
    rw [h1] at hx
    simp only [Rep] at hx
    obtain ⟨b, hb, hav⟩ := hx
    simp only [AOk]
    refine ⟨by simp, fun b' ty vs hσ hw hl => ?_⟩
    rw [hb] at hσ; cases hσ
    have := run_load1 (P := P) hw hl
    simp only [execOp, hop, hav, Instr.loadAt, Instr.sureAddr, loadVar, Sem.run_bind, Sem.run_pure, Result.andThen_ok, run_agg h2, Bool.false_eq_true, if_false, this]
  · rename_i c x col n h1 h2 h3
    cases hb : Nat.ble (col + n) c.size with
    | false => simp only [cond_false, AOk]
    | true =>
      rw [h1] at hx
      simp only [Rep] at hx
      obtain ⟨b, o', vs, hav, hr, hd⟩ := hx
      have hlen := RepD.len _ _ _ hd
      simp only [Nat.ble_eq] at hb
      have := run_reads (P := P) hm hr (show col + n ≤ vs.length by omega)
      simp only [cond_true, AOk]
      refine ⟨.agg ((vs.drop col).take n).toArray, by simp [execOp, hop, hav, Instr.loadAt, Instr.sureAddr, loadVar, run_agg h2, run_size h3, this], ?_⟩
      simp only [Rep, takeA_eq, dropA_eq]
      exact ⟨_, ((enc_rep _ _ _ hd).drop _).take _, rfl⟩
  · rename_i c x col h1 h2
    rw [h1] at hx
    simp only [Rep] at hx
    obtain ⟨b, o', vs, hav, hr, hd⟩ := hx
    refine aok_opt fun y hy => ?_
    rw [nth_eq] at hy
    obtain ⟨v, hv1, hv2⟩ := (enc_rep _ _ _ hd).get hy
    have := run_read1 (P := P) hm hr hv1
    refine ⟨v, ?_, hv2⟩
    simp only [execOp, hop, hav, Instr.loadAt, Instr.sureAddr, loadVar, Sem.run_bind, Sem.run_pure, Result.andThen_ok, run_agg h2, Bool.false_eq_true, if_false, this]
  · simp only [AOk]

theorem eff_store (hρ : ∀ x, Rep σ (s.eval x) (a.eval x)) (o : Oper) (t : TypeId) (x y : Operand) (hop : o.op = .store t x y) : AOk P σ w ((execOp a.eval o).run P w) (eff P (.store t x y) s.eval) := by
  have hx := hρ x
  have hy := hρ y
  simp only [eff]
  split
  · rename_i id row st col cs n h1 h2 h3
    cases hb : (Nat.beq (lenA cs) n && cs.all one) with
    | false => simp only [cond_false, AOk]
    | true =>
      simp only [Bool.and_eq_true, Nat.beq_eq, lenA_eq] at hb
      rw [h1] at hx
      simp only [Rep] at hx
      obtain ⟨b, hb1, hav⟩ := hx
      have hcr := rep_cells hy h2
      simp only [cond_true, AOk]
      refine ⟨_, hcr, fun b' ty vs hσ hw hl => ?_⟩
      rw [hb1] at hσ; cases hσ
      have hsz : (a.eval y).cells.size = n := by have := hcr.length; simp at this; omega
      have h5 := run_stores (P := P) b (row * st + col) ty (a.eval y).cells.toList 0 vs w hw (by simpa using hl) (all_one hcr hb.2)
      simp only [execOp, hop, hav, Instr.storeAt, Instr.sureAddr, storeVar, Sem.run_bind, Sem.run_pure, Result.andThen_ok, run_size h3, hsz, ne_eq, not_true_eq_false, if_false, h5, Nat.add_zero]
  · simp only [AOk]
end
end V
end Go.Proofs.Ytmmhbianajpdgaa
