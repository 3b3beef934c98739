/- That the symbolic evaluator of the text Ea is sound: a region whose order is open, second part. -/
import Derived.Test.YtmmhbianajpdgaaVg
namespace Go.Proofs.Ytmmhbianajpdgaa
open Go.RowKit
namespace V

section
variable {P : Program} {ρ ρ' : Operand → AV}
theorem map_congr_ops {l : List Operand} (h : ∀ x ∈ l, ρ x = ρ' x) : l.map ρ = l.map ρ' := List.map_congr_left h
theorem eff_congr (o : Op) (h : ∀ x ∈ o.operands, ρ x = ρ' x) : eff P o ρ = eff P o ρ' := by
  cases o <;> simp only [Op.operands, Call.operands] at h <;> first
    | rfl
    | (simp only [eff]; rw [h _ (by simp)]; done)
    | (simp only [eff]; rw [h _ (by simp)]; rfl)
    | skip
  case pick c a b =>
    have h1 := h c (by simp); have h2 := h a (by simp); have h3 := h b (by simp)
    simp only [eff, h1, h2, h3]
  case build t parts =>
    have hp : (parts.toList.map fun p => (p.1, ρ p.2)) = parts.toList.map fun p => (p.1, ρ' p.2) := List.map_congr_left fun p hp => by
      rw [h p.2 (by simp; exact ⟨p.1, by simpa using hp⟩)]
    simp only [eff, hp]
  case buildSlice t len parts =>
    have hp : (parts.toList.map fun p => (p.1, ρ p.2)) = parts.toList.map fun p => (p.1, ρ' p.2) := List.map_congr_left fun p hp => by
      rw [h p.2 (by simp; exact ⟨p.1, by simpa using hp⟩)]
    simp only [eff, hp]
  case store t a v =>
    have h1 := h a (by simp); have h2 := h v (by simp)
    simp only [eff, h1, h2]
  case binOp op t a v ty =>
    have h1 := h a (by simp); have h2 := h v (by simp)
    simp only [eff, h1, h2]
  case indexAddr t a v =>
    have h1 := h a (by simp); have h2 := h v (by simp)
    simp only [eff, h1, h2]
  case makeSlice t a v =>
    have h1 := h a (by simp); have h2 := h v (by simp)
    simp only [eff, h1, h2]
  case index t a v =>
    have h1 := h a (by simp); have h2 := h v (by simp)
    simp only [eff, h1, h2]
  case makeFunc fn first captured =>
    have h1 : first.toList.map ρ = first.toList.map ρ' := map_congr_ops fun x hx => h x (by have hx' := Array.mem_toList_iff.1 hx; simp [hx'])
    have h2 : captured.toList.map ρ = captured.toList.map ρ' := map_congr_ops fun x hx => h x (by have hx' := Array.mem_toList_iff.1 hx; simp [hx'])
    simp only [eff, h1, h2]
  case call c =>
    obtain ⟨callee, args, ts⟩ := c
    have h1 : args.toList.map ρ = args.toList.map ρ' := map_congr_ops fun x hx => h x (by have hx' := Array.mem_toList_iff.1 hx; simp [hx'])
    cases callee with
    | value f =>
      have h2 := h f (by simp)
      simp only [eff, h1, h2]
    | invoke r m => rfl
    | builtin b => simp only [eff, h1]
  case makeMap t r => cases r <;> rfl
  case slice t x lo hi mx =>
    have h1 := h x (by simp)
    have h2 : lo.map ρ = lo.map ρ' := by
      cases lo with
      | none => rfl
      | some y => simp only [Option.map_some]; rw [h y (by simp)]
    have h3 : hi.map ρ = hi.map ρ' := by
      cases hi with
      | none => rfl
      | some y => simp only [Option.map_some]; rw [h y (by simp)]
    simp only [eff, h1, h2, h3]
  case lookup t m k ok =>
    have h1 := h m (by simp); have h2 := h k (by simp)
    simp only [eff, h1, h2]
  case mapUpdate t m k x =>
    have h1 := h m (by simp); have h2 := h k (by simp); have h3 := h x (by simp)
    simp only [eff, h1, h2, h3]
  case typeAssert x t u ok =>
    have h1 := h x (by simp)
    cases ok <;> simp only [eff, h1]
  case defer c =>
    obtain ⟨callee, args, ts⟩ := c
    have h1 : args.toList.map ρ = args.toList.map ρ' := map_congr_ops fun x hx => h x (by have hx' := Array.mem_toList_iff.1 hx; simp [hx'])
    cases callee with
    | value f =>
      have h2 := h f (by simp)
      simp only [eff, h1, h2]
    | invoke r m => rfl
    | builtin b => rfl
end

section
variable {P : Program} {pu : List (Nat × PureT)} {nx : Nat}

theorem effIt_transport {id0 : Nat} {s s' : St} {it : It} (hm : match it.mem with
      | .ld id lo hi => ∀ c, lo ≤ c → c < hi → info s'.hp id c = info s.hp id c
      | .st id lo vs => ∀ c, lo ≤ c → c < lo + vs.length → info s'.hp id c = info s.hp id c
      | _ => True) (harr : ∀ id A, s.hp id = some (.arr A) → s'.hp id = some (.arr A)) : ∀ (e : Eff), EffIt pu id0 s it e → EffIt pu id0 s' it e
  | .val x, h => h
  | .load id row st col n agg, h => by
    simp only [EffIt] at h ⊢
    rcases h with ⟨b, h1, h2, h3, h4, h5⟩ | ⟨A, h1, h2⟩
    case inr => exact .inr ⟨A, harr id A h1, h2⟩
    left
    rw [h4] at hm
    simp only at hm
    have hget : ∀ c, row * st + col ≤ c → c < row * st + col + n → ∃ b', s'.hp id = some (.blk b') ∧ b'.cs.length = b.cs.length ∧ b'.cs[c]? = b.cs[c]? := by
      intro c hc1 hc2
      have := hm c hc1 hc2
      simp only [info, h1, Option.map_some] at this
      cases hb : s'.hp id with
      | none => simp [hb] at this
      | some b' =>
        cases b' <;> simp only [hb, Option.map_some, Option.some.injEq, Prod.mk.injEq, reduceCtorEq] at this
        exact ⟨_, rfl, this.2.1, this.2.2⟩
    obtain ⟨b', k1, k2, k3⟩ := hget (row * st + col) (Nat.le_refl _) (by omega)
    refine ⟨b', k1, h2, by omega, h4, ?_⟩
    cases agg with
    | true =>
      simp only [if_true] at h5 ⊢
      rw [h5]
      congr 1
      apply List.ext_getElem?
      intro j
      rw [List.getElem?_take, List.getElem?_take]
      split
      · rename_i hj
        rw [List.getElem?_drop, List.getElem?_drop]
        obtain ⟨b2, m1, m2, m3⟩ := hget (row * st + col + j) (by omega) (by omega)
        rw [k1] at m1; cases m1
        exact m3.symm
      · rfl
    | false =>
      simp only [Bool.false_eq_true, if_false] at h5 ⊢
      rw [k3, h5]
  | .store id row st col vs, h => by
    simp only [EffIt] at h ⊢
    obtain ⟨b, h1, h3, h4, h5, h6⟩ := h
    rw [h5] at hm
    simp only at hm
    have := hm (row * st + col) (Nat.le_refl _) (by omega)
    simp only [info, h1, Option.map_some] at this
    cases hb : s'.hp id with
    | none => simp [hb] at this
    | some b' =>
      cases b' <;> simp only [hb, Option.map_some, Option.some.injEq, Prod.mk.injEq, reduceCtorEq] at this
      exact ⟨_, rfl, h3, by rw [this.2.1]; exact h4, h5, h6⟩
  | .alloc b mk, h => h
  | .idx id st n, h => by
    simp only [EffIt] at h ⊢
    obtain ⟨A, h1, h2⟩ := h
    exact ⟨A, harr id A h1, h2⟩
  | .len id, h => by
    simp only [EffIt] at h ⊢
    obtain ⟨A, h1, h2⟩ := h
    exact ⟨A, harr id A h1, h2⟩
  | .call f args, h => h
  | .test c e, h => by
    simp only [EffIt] at h ⊢
    exact ⟨h.1, effIt_transport hm harr e h.2⟩
  | .list .., h => h
  | .app .., h => h
  | .round .., h => h
  | .dfr _, h => h
  | .panic _, h => h
  | .mapNew, h => h
  | .mapGet .., h => h
  | .mapSet .., h => h
  | .bad, h => h

theorem item_transport {ops : Array Oper} {id0 i : Nat} {it : It} {s s' : St} (h : ItemOk pu id0 P ops i it s) (hn : s'.n = s.n) (ht : ∀ o, ops[i]? = some o → ∀ t ∈ looks ops o, s'.tm t = s.tm t)
    (hm : match it.mem with
      | .ld id lo hi => ∀ c, lo ≤ c → c < hi → info s'.hp id c = info s.hp id c
      | .st id lo vs => ∀ c, lo ≤ c → c < lo + vs.length → info s'.hp id c = info s.hp id c
      | _ => True) (harr : ∀ id A, s.hp id = some (.arr A) → s'.hp id = some (.arr A)) : ItemOk pu id0 P ops i it s' := by
  obtain ⟨o, h1, h2, h3, h4⟩ := h
  have ht' := ht o h1
  have hev : ∀ x ∈ o.op.operands, s'.eval x = s.eval x := by
    intro x hx
    cases x with
    | tmp t => exact ht' t (by simp only [looks, List.mem_append, List.mem_filterMap]; exact .inl ⟨.tmp t, Array.mem_toList_iff.2 hx, rfl⟩)
    | _ => rfl
  have hgd : ∀ j want d, o.guard = some (j, want) → (ops[j]?).bind (·.dst) = some d → s'.tm d = s.tm d := by
    intro j want d hg hd
    exact ht' d (by simp only [looks, hg, hd, List.mem_append]; exact .inr (by simp))
  refine ⟨o, h1, h2, by rw [hn]; exact h3, ?_⟩
  rcases h4 with ⟨hr, he⟩ | ⟨hs, hres, hmem⟩
  · left
    refine ⟨?_, ?_⟩
    · unfold Runs at hr ⊢
      cases hg : o.guard with
      | none => trivial
      | some g =>
        obtain ⟨j, want⟩ := g
        rw [hg] at hr
        obtain ⟨d, k1, k2, k3⟩ := hr
        exact ⟨d, k1, by rw [hn]; exact k2, by rw [hgd j want d hg k1]; exact k3⟩
    · rw [eff_congr (P := P) o.op hev]
      exact effIt_transport hm harr _ he
  · right
    refine ⟨?_, hres, hmem⟩
    obtain ⟨j, want, d, k1, k2, k3, k4⟩ := hs
    refine ⟨j, want, d, k1, k2, by rw [hn]; exact k3, ?_⟩
    rw [hgd j want d k1 k2]; exact k4

/-- a new block at a number that is free -/
theorem HRel.allocAt {B : Nat} {σ : Env} {hp : Heap} {m : Nat} {w : World} (h : HRel B σ hp m w) (hB : B ≤ w.heap.size) {id : Nat} (hid : σ id = none) (hlt : id < m) {b : Blk} {us : List Value} (hu : RepL σ b.cs us) :
    ∃ τ, Ext σ τ ∧ (∀ j, j ≠ id → τ j = σ j) ∧ τ id = some w.heap.size ∧ HRel B τ (upd hp id (some (.blk b))) m (w.alloc (.cells us.toArray b.ty)) := by
  have he : Ext σ { σ with at_ := upd σ.at_ id (some w.heap.size) } := ⟨fun i n hi => by
    show upd σ.at_ id _ i = _
    rw [upd_other _ _ (fun e => by rw [e, hid] at hi; cases hi)]; exact hi, fun _ _ _ h => h, fun _ _ h => h, rfl⟩
  have hs : (w.alloc (.cells us.toArray b.ty)).heap.size = w.heap.size + 1 := by simp
  refine ⟨_, he, fun j hj => upd_other _ _ hj, upd_same _ _ _, ?_⟩
  refine h.putOb he rfl (fun _ _ h => h) hlt (Nat.le_refl _) (fun j hj => upd_other _ _ hj) (fun _ _ => rfl) (by omega) ?_ ?_ ?_ ?_
  · intro j n _ _ hn; exact Below.heap_alloc _ _ _ (h.bound j n hn)
  · intro n oo v hv; exact Below.heap_alloc _ _ _ (mem_old h.mem hv)
  · exact ⟨w.heap.size, us, upd_same _ _ _, by show (w.heap.push _)[w.heap.size]? = _; simp, hu.mono he, hB⟩
  · intro n hn
    have : n = w.heap.size := by
      have e : upd σ.at_ id (some w.heap.size) id = some w.heap.size := upd_same _ _ _
      have hn' : upd σ.at_ id (some w.heap.size) id = some n := hn
      rw [e] at hn'; cases hn'; rfl
    subst this
    refine ⟨by omega, fun j _ _ hj => ?_, mem_new h.mem (Nat.le_refl _)⟩
    exact absurd (h.bound j _ hj) (Nat.lt_irrefl _)

def PuOk (P : Program) (pu : List (Nat × PureT)) : Prop := ∀ p ∈ pu, Plain P p.1 ∧ PureOk P p.1 p.2

theorem effIt_step (hpu : PuOk P pu) {rd : Bool} {w0 : World} {σ : Env} {s : St} {a : Go.Act} {w : World} {o : Oper} {id0 : Nat} {it : It} {next : Go.Act → World → Prop} {Q : Exit → Go.Act → World → Prop} {r : Result Next}
    (hS : Sat rd w0 σ s a w) (hfree : σ id0 = none) (hid : id0 < s.nx) (hdst : it.dst = o.dst) (hd : o.dst.getD 0 < s.n)
    (hK : ∀ τ a' w', Ext σ τ → (∀ j, j ≠ id0 → τ j = σ j) → Sat rd w0 τ (it.app id0 s) a' w' → next a' w') : ∀ (e : Eff), AOk P σ w r e → EffIt pu id0 s it e → Oper.uponX P rd o a next Q r
  | .val x, he, h => by
    simp only [AOk] at he
    obtain ⟨v, rfl, hv⟩ := he
    simp only [EffIt] at h
    refine hK σ _ _ (Ext.refl _) (fun _ _ => rfl) ?_
    have : it.app id0 s = s.put o.dst x := by simp only [It.app, h.2, Mem.app, h.1, hdst]
    rw [this]; exact hS.put hd hv
  | .load id row st col n agg, he, h => by
    simp only [AOk] at he
    obtain ⟨hn, he⟩ := he
    simp only [EffIt] at h
    rcases h with ⟨b, hb, h0, hl, hmem, hres⟩ | ⟨A, hA, hl1, hl2, hr', hmem, hres⟩
    case inr =>
      subst hl1
      obtain ⟨v, us, h1, h2, h3, h4, h5⟩ := hS.h.ob id _ hA
      rcases h2.2 with ⟨_, k⟩ | ⟨g, cap, cur, rfl, k2, k3, k4, k5, k6, k7⟩
      · omega
      have hg := (h5 g).1 rfl
      have hul := LR.len (fun x vs => RepD.len A.c x vs) h3
      have hrow : (row + 1) * A.c.size ≤ A.xs.length * A.c.size := Nat.mul_le_mul_right _ hr'
      rw [Nat.add_mul, Nat.one_mul] at hrow
      have hcl : cur.toList.length = cap * A.c.size := by simpa using k6
      have hxc : A.xs.length * A.c.size ≤ cap * A.c.size := Nat.mul_le_mul_right _ k4
      have hrun := he g A.ty cur.toList hg (by simpa using k3) (by omega)
      have hel := LR.get (fun x vs => RepD.len A.c x vs) row (dflt A.c) h3 hr'
      have hcells : (us.drop (row * A.c.size)).take A.c.size = (cur.toList.drop (row * A.c.size)).take A.c.size := by
        rw [← k7, List.drop_take, List.take_take]
        congr 1; omega
      rw [hcells] at hel
      have hrep := enc_rep (σ := σ) _ _ _ hel
      have hdrop : ((cur.toList.drop (row * A.c.size)).take A.c.size).drop col = (cur.toList.drop (row * A.c.size + col)).take (A.c.size - col) := by
        rw [List.drop_take, List.drop_drop]
      rw [hrun]
      refine hK σ _ _ (Ext.refl _) (fun _ _ => rfl) ?_
      have : it.app id0 s = s.put o.dst it.res := by simp only [It.app, hmem, Mem.app, hdst]
      rw [this]
      refine hS.put hd ?_
      cases agg with
      | true =>
        simp only [if_true] at hres ⊢
        rw [hres]; simp only [Rep]
        refine ⟨_, (hrep.drop col).take n, ?_⟩
        rw [hdrop, List.take_take, Nat.min_eq_left (by omega)]
      | false =>
        simp only [Bool.false_eq_true, if_false] at hres ⊢
        obtain ⟨v, hv, hr2⟩ := hrep.get hres
        have hv' : cur.toList[row * A.c.size + col]? = some v := by
          rw [List.getElem?_take] at hv
          split at hv
          · rwa [List.getElem?_drop] at hv
          · cases hv
        simp only [List.getD, hv', Option.getD_some]
        exact hr2
    obtain ⟨m, vs, h1, h2, h3, h4⟩ := hS.h.ob id _ hb
    rw [he m b.ty vs h1 h2 (by rw [← h3.length]; exact hl)]
    refine hK σ _ _ (Ext.refl _) (fun _ _ => rfl) ?_
    have : it.app id0 s = s.put o.dst it.res := by simp only [It.app, hmem, Mem.app, hdst]
    rw [this]
    refine hS.put hd ?_
    cases agg with
    | true =>
      simp only [if_true] at hres ⊢
      rw [hres]; simp only [Rep]
      exact ⟨_, (h3.drop _).take _, rfl⟩
    | false =>
      simp only [Bool.false_eq_true, if_false] at hres ⊢
      obtain ⟨v, hv, hr⟩ := h3.get hres
      simp only [List.getD, hv, Option.getD_some]
      exact hr
  | .store id row st col xs, he, h => by
    simp only [AOk] at he
    obtain ⟨us, hu, he⟩ := he
    simp only [EffIt] at h
    obtain ⟨b, hb, h0, hl, hmem, hres⟩ := h
    obtain ⟨m, vs, h1, h2, h3, h4⟩ := hS.h.ob id _ hb
    rw [he m b.ty vs h1 h2 (by rw [← h3.length, ← hu.length]; exact hl)]
    have hob : ObRel w0.heap.size σ (w.setRow m (setsA vs (row * st + col) us).toArray) id (.blk ⟨b.ty, setsA b.cs (row * st + col) xs⟩) :=
      ⟨m, _, h1, setRow_heap w m _ _ _ _ h2, setsA_rep _ _ (row * st + col) _ _ h3 hu, h4⟩
    have hh := hS.h.turn (by rw [hb]; simp) h1 _ hob
    have hS' : Sat rd w0 σ { s with hp := upd s.hp id (some (.blk ⟨b.ty, setsA b.cs (row * st + col) xs⟩)) } a (w.setRow m (setsA vs (row * st + col) us).toArray) :=
      hS.mono (Ext.refl _) hh (below_setRow hS.bl h4 _)
    refine hK σ _ _ (Ext.refl _) (fun _ _ => rfl) ?_
    have : it.app id0 s = ({ s with hp := upd s.hp id (some (.blk ⟨b.ty, setsA b.cs (row * st + col) xs⟩)) } : St).put o.dst (.val undef) := by
      simp only [It.app, hmem, Mem.app, hb, hres, hdst]
    rw [this]
    exact hS'.put hd (by simp only [Rep])
  | .alloc b mk, he, h => by
    simp only [AOk] at he
    obtain ⟨us, v, hu, rfl, hv⟩ := he
    simp only [EffIt] at h
    obtain ⟨τ, e, hoth, hτ, hh⟩ := hS.h.allocAt hS.bl.size hfree hid hu
    have hS' : Sat rd w0 τ { s with hp := upd s.hp id0 (some (.blk b)) } a _ := hS.mono e hh (hS.bl.alloc hS.bl.size _)
    refine hK τ _ _ e hoth ?_
    have : it.app id0 s = ({ s with hp := upd s.hp id0 (some (.blk b)) } : St).put o.dst (mk id0) := by
      simp only [It.app, h.1, Mem.app, h.2, hdst]
    rw [this]
    exact hS'.put hd (hv τ id0 e hτ)
  | .idx id st n, he, h => by
    simp only [AOk] at he
    simp only [EffIt] at h
    obtain ⟨A, hA, hl1, hr1, hr2, hmem, hres⟩ := h
    subst hl1
    obtain ⟨v, us, h1, h2, h3, h4, h5⟩ := hS.h.ob id _ hA
    rcases h2.2 with ⟨_, k⟩ | ⟨g, cap, cur, rfl, k2, k3⟩
    · omega
    have hg := (h5 g).1 rfl
    rw [he g _ cap h1 hr1 hr2]
    refine hK σ _ _ (Ext.refl _) (fun _ _ => rfl) ?_
    have : it.app id0 s = s.put o.dst (.ptr id n.toNat A.c.size 0) := by simp only [It.app, hmem, Mem.app, hres, hdst]
    rw [this]
    exact hS.put hd (by simp only [Rep]; exact ⟨g, hg, rfl⟩)
  | .len id, he, h => by
    simp only [AOk] at he
    simp only [EffIt] at h
    obtain ⟨A, hA, hmem, hres⟩ := h
    obtain ⟨v, us, h1, h2, h3, h4, h5⟩ := hS.h.ob id _ hA
    have : it.app id0 s = s.put o.dst (.int .i64 A.xs.length) := by simp only [It.app, hmem, Mem.app, hres, hdst]
    rcases h2.2 with ⟨rfl, k⟩ | ⟨g, cap, cur, rfl, k2, k3, k4, k5, _⟩
    · rw [he _ _ _ h1]
      refine hK σ _ _ (Ext.refl _) (fun _ _ => rfl) ?_
      rw [this, k]
      exact hS.put hd (rep_int ⟨by simp [minK], by simp [maxK]⟩)
    · rw [he _ _ _ h1]
      simp only [maxLen] at k5
      refine hK σ _ _ (Ext.refl _) (fun _ _ => rfl) ?_
      rw [this]
      exact hS.put hd (rep_int ⟨by simp only [minK]; omega, by simp only [maxK]; omega⟩)
  | .call f xs, he, h => by
    simp only [AOk] at he
    obtain ⟨us, hu, rfl⟩ := he
    simp only [EffIt] at h
    obtain ⟨g, x, hg, hgf, hgx, hres, hmem⟩ := h
    obtain ⟨h1, h2⟩ := hpu _ (assoc_mem hg)
    rw [h1.run]
    refine (h2 σ w xs us x hS.h.bound hS.h.mem hu hgx).mono ?_
    rintro e w' ⟨v, m', rfl, _, _, _, _, hv, hbl⟩
    have hS' : Sat rd w0 σ { s with hp := s.hp, nx := s.nx } a w' := hS.mono (Ext.refl _) (hS.h.below hbl) (hS.bl.trans (hbl.mono hS.bl.size))
    refine hK σ _ _ (Ext.refl _) (fun _ _ => rfl) ?_
    have : it.app id0 s = ({ s with hp := s.hp, nx := s.nx } : St).put o.dst x := by simp only [It.app, hmem, Mem.app, hres, hdst]
    rw [this]
    exact hS'.put hd (hv hgf _ (fun _ _ h => h))
  | .test c e, he, h => by
    simp only [AOk] at he
    simp only [EffIt] at h
    exact effIt_step hpu hS hfree hid hdst hd hK e (he h.1) h.2
  | .list .., _, h => by simp [EffIt] at h
  | .app .., _, h => by simp [EffIt] at h
  | .round .., _, h => by simp [EffIt] at h
  | .dfr _, _, h => by simp [EffIt] at h
  | .panic _, _, h => by simp [EffIt] at h
  | .mapNew, _, h => by simp [EffIt] at h
  | .mapGet .., _, h => by simp [EffIt] at h
  | .mapSet .., _, h => by simp [EffIt] at h
  | .bad, _, h => by simp [EffIt] at h

theorem item_step (hpu : PuOk P pu) {rd : Bool} {w0 : World} {σ : Env} {s : St} {a : Go.Act} {w : World} {ops : Array Oper} {i id0 : Nat} {it : It} {K : Go.Act → World → Prop} {Q : Exit → Go.Act → World → Prop}
    (hS : Sat rd w0 σ s a w) (hfree : σ id0 = none) (hid : id0 < s.nx) (hi : ItemOk pu id0 P ops i it s)
    (hK : ∀ τ a' w', Ext σ τ → (∀ j, j ≠ id0 → τ j = σ j) → Sat rd w0 τ (it.app id0 s) a' w' → K a' w') : wpOpX P rd ops Q i K a w := by
  obtain ⟨o, h1, h2, h3, h4⟩ := hi
  unfold wpOpX
  simp only [h1]
  rcases h4 with ⟨hr, he⟩ | ⟨⟨j, want, d, k1, k2, k3, k4⟩, hres, hmem⟩
  · have hw : Region.wanted o (yielded ops a.tmps) = true := by
      unfold Runs at hr
      cases hg : o.guard with
      | none => simp [Region.wanted, hg]
      | some g =>
        obtain ⟨j, want⟩ := g
        rw [hg] at hr
        obtain ⟨d, k1, k2, k3⟩ := hr
        have hy := yielded_of k1 (by rw [hS.n]; exact k2)
        have hrep := hS.tm d
        rw [k3] at hrep; simp only [Rep] at hrep
        rw [hrep] at hy
        simp [Region.wanted, hg, hy]
    rw [if_pos hw]
    exact effIt_step hpu hS hfree hid h2 h3 hK _ (eff_ok hS.h.mem hS.eval o) he
  · have hy := yielded_of k2 (by rw [hS.n]; exact k3)
    have hrep := hS.tm d
    have hw : ¬ Region.wanted o (yielded ops a.tmps) = true := by
      rcases k4 with k4 | ⟨vs, k4⟩
      · rw [k4] at hrep; simp only [Rep] at hrep
        rw [hrep] at hy
        simp [Region.wanted, k1, hy]
      · rw [k4] at hrep; simp only [Rep] at hrep
        rw [hrep] at hy
        simp [Region.wanted, k1, hy]
    rw [if_neg hw]
    refine hK σ _ _ (Ext.refl _) (fun _ _ => rfl) ?_
    have : it.app id0 s = s.put o.dst (.val undef) := by simp only [It.app, hmem, Mem.app, hres, h2]
    rw [this]
    exact hS.put h3 (by simp only [Rep])
end
end V
end Go.Proofs.Ytmmhbianajpdgaa
