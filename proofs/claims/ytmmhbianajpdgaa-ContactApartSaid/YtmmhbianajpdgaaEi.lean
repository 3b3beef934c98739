/- That the symbolic evaluator of the text Ea is sound: a region whose order is open, second part. -/
import Derived.Test.YtmmhbianajpdgaaEg
namespace Go.Proofs.Ytmmhbianajpdgaa
open Go.RowKit
namespace Ev

section
variable {P : Program} {ρ ρ' : Operand → AV}
theorem map_congr_ops {l : List Operand} (h : ∀ x ∈ l, ρ x = ρ' x) : l.map ρ = l.map ρ' := List.map_congr_left h
theorem eff_congr (o : Op) (h : ∀ x ∈ o.operands, ρ x = ρ' x) : eff P o ρ = eff P o ρ' := by
  cases o <;> simp only [Op.operands, Call.operands] at h <;> first
    | rfl
    | (simp only [eff]; rw [h _ (by simp)]; done)
    | (simp only [eff]; rw [h _ (by simp)]; rfl)
    | skip
  case pick c a b =>
    have h1 := h c (by simp); have h2 := h a (by simp); have h3 := h b (by simp)
    simp only [eff, h1, h2, h3]
  case build t parts =>
    have hp : (parts.toList.map fun p => (p.1, ρ p.2)) = parts.toList.map fun p => (p.1, ρ' p.2) := List.map_congr_left fun p hp => by
      rw [h p.2 (by simp; exact ⟨p.1, by simpa using hp⟩)]
    simp only [eff, hp]
  case buildSlice t len parts =>
    have hp : (parts.toList.map fun p => (p.1, ρ p.2)) = parts.toList.map fun p => (p.1, ρ' p.2) := List.map_congr_left fun p hp => by
      rw [h p.2 (by simp; exact ⟨p.1, by simpa using hp⟩)]
    simp only [eff, hp]
  case store t a v =>
    have h1 := h a (by simp); have h2 := h v (by simp)
    simp only [eff, h1, h2]
  case binOp op t a v ty =>
    have h1 := h a (by simp); have h2 := h v (by simp)
    simp only [eff, h1, h2]
  case indexAddr t a v =>
    have h1 := h a (by simp); have h2 := h v (by simp)
    simp only [eff, h1, h2]
  case makeSlice t a v =>
    have h1 := h a (by simp); have h2 := h v (by simp)
    simp only [eff, h1, h2]
  case index t a v =>
    have h1 := h a (by simp); have h2 := h v (by simp)
    simp only [eff, h1, h2]
  case makeFunc fn first captured =>
    have h1 : first.toList.map ρ = first.toList.map ρ' := map_congr_ops fun x hx => h x (by have hx' := Array.mem_toList_iff.1 hx; simp [hx'])
    have h2 : captured.toList.map ρ = captured.toList.map ρ' := map_congr_ops fun x hx => h x (by have hx' := Array.mem_toList_iff.1 hx; simp [hx'])
    simp only [eff, h1, h2]
  case call c =>
    obtain ⟨callee, args, ts⟩ := c
    have h1 : args.toList.map ρ = args.toList.map ρ' := map_congr_ops fun x hx => h x (by have hx' := Array.mem_toList_iff.1 hx; simp [hx'])
    cases callee with
    | value f =>
      have h2 := h f (by simp)
      simp only [eff, h1, h2]
    | invoke r m => rfl
    | builtin b => simp only [eff, h1]
end

section
variable {P : Program} {pu : List (Nat × PureT)} {nx : Nat}

theorem effIt_transport {id0 : Nat} {s s' : St} {it : It} (hm : match it.mem with
      | .ld id lo hi => ∀ c, lo ≤ c → c < hi → info s'.hp id c = info s.hp id c
      | .st id lo vs => ∀ c, lo ≤ c → c < lo + vs.length → info s'.hp id c = info s.hp id c
      | _ => True) : ∀ (e : Eff), EffIt pu id0 s it e → EffIt pu id0 s' it e
  | .val x, h => h
  | .load id row st col n agg, h => by
    simp only [EffIt] at h ⊢
    obtain ⟨b, h1, h2, h3, h4, h5⟩ := h
    rw [h4] at hm
    simp only at hm
    have hget : ∀ c, row * st + col ≤ c → c < row * st + col + n → ∃ b', s'.hp id = some b' ∧ b'.cs.length = b.cs.length ∧ b'.cs[c]? = b.cs[c]? := by
      intro c hc1 hc2
      have := hm c hc1 hc2
      simp only [info, h1, Option.map_some] at this
      cases hb : s'.hp id with
      | none => simp [hb] at this
      | some b' =>
        simp only [hb, Option.map_some, Option.some.injEq, Prod.mk.injEq] at this
        exact ⟨b', rfl, this.2.2.1, this.2.2.2⟩
    obtain ⟨b', k1, k2, k3⟩ := hget (row * st + col) (Nat.le_refl _) (by omega)
    refine ⟨b', k1, h2, by omega, h4, ?_⟩
    cases agg with
    | true =>
      simp only [if_true] at h5 ⊢
      rw [h5]
      congr 1
      apply List.ext_getElem?
      intro j
      rw [List.getElem?_take, List.getElem?_take]
      split
      · rename_i hj
        rw [List.getElem?_drop, List.getElem?_drop]
        obtain ⟨b2, m1, m2, m3⟩ := hget (row * st + col + j) (by omega) (by omega)
        rw [k1] at m1; cases m1
        exact m3.symm
      · rfl
    | false =>
      simp only [Bool.false_eq_true, if_false] at h5 ⊢
      rw [k3, h5]
  | .store id row st col vs, h => by
    simp only [EffIt] at h ⊢
    obtain ⟨b, h1, h2, h3, h4, h5, h6⟩ := h
    rw [h5] at hm
    simp only at hm
    have := hm (row * st + col) (Nat.le_refl _) (by omega)
    simp only [info, h1, Option.map_some] at this
    cases hb : s'.hp id with
    | none => simp [hb] at this
    | some b' =>
      simp only [hb, Option.map_some, Option.some.injEq, Prod.mk.injEq] at this
      exact ⟨b', rfl, by rw [this.2.1]; exact h2, h3, by rw [this.2.2.1]; exact h4, h5, h6⟩
  | .alloc b mk, h => h
  | .app .., h => h
  | .call f args, h => h
  | .test c e, h => by
    simp only [EffIt] at h ⊢
    exact ⟨h.1, effIt_transport hm e h.2⟩
  | .bad, h => h

theorem item_transport {ops : Array Oper} {id0 i : Nat} {it : It} {s s' : St} (h : ItemOk pu id0 P ops i it s) (hn : s'.n = s.n) (ht : ∀ o, ops[i]? = some o → ∀ t ∈ looks ops o, s'.tm t = s.tm t)
    (hm : match it.mem with
      | .ld id lo hi => ∀ c, lo ≤ c → c < hi → info s'.hp id c = info s.hp id c
      | .st id lo vs => ∀ c, lo ≤ c → c < lo + vs.length → info s'.hp id c = info s.hp id c
      | _ => True) : ItemOk pu id0 P ops i it s' := by
  obtain ⟨o, h1, h2, h3, h4⟩ := h
  have ht' := ht o h1
  have hev : ∀ x ∈ o.op.operands, s'.eval x = s.eval x := by
    intro x hx
    cases x with
    | tmp t => exact ht' t (by simp only [looks, List.mem_append, List.mem_filterMap]; exact .inl ⟨.tmp t, Array.mem_toList_iff.2 hx, rfl⟩)
    | _ => rfl
  have hgd : ∀ j want d, o.guard = some (j, want) → (ops[j]?).bind (·.dst) = some d → s'.tm d = s.tm d := by
    intro j want d hg hd
    exact ht' d (by simp only [looks, hg, hd, List.mem_append]; exact .inr (by simp))
  refine ⟨o, h1, h2, by rw [hn]; exact h3, ?_⟩
  rcases h4 with ⟨hr, he⟩ | ⟨hs, hres, hmem⟩
  · left
    refine ⟨?_, ?_⟩
    · unfold Runs at hr ⊢
      cases hg : o.guard with
      | none => trivial
      | some g =>
        obtain ⟨j, want⟩ := g
        rw [hg] at hr
        obtain ⟨d, k1, k2, k3⟩ := hr
        exact ⟨d, k1, by rw [hn]; exact k2, by rw [hgd j want d hg k1]; exact k3⟩
    · rw [eff_congr (P := P) o.op hev]
      exact effIt_transport hm _ he
  · right
    refine ⟨?_, hres, hmem⟩
    obtain ⟨j, want, d, k1, k2, k3, k4⟩ := hs
    refine ⟨j, want, d, k1, k2, by rw [hn]; exact k3, ?_⟩
    rw [hgd j want d k1 k2]; exact k4

/-- a new block at a number that is free -/
theorem HRel.allocAt {B : Nat} {σ : Nat → Option Nat} {hp : Heap} {m : Nat} {w : World} (h : HRel B σ hp m w) (hB : B ≤ w.heap.size) {id : Nat} (hid : σ id = none) (hlt : id < m) {b : Blk} {us : List Value} (hu : RepL σ b.cs us) :
    ∃ τ, Ext σ τ ∧ (∀ j, j ≠ id → τ j = σ j) ∧ τ id = some w.heap.size ∧ HRel B τ (upd hp id (some b)) m (w.alloc (.cells us.toArray b.ty)) := by
  have he : Ext σ (upd σ id (some w.heap.size)) := fun i n hi => by
    rw [upd_other _ _ (fun e => by rw [e, hid] at hi; simp at hi)]; exact hi
  refine ⟨upd σ id (some w.heap.size), he, fun j hj => upd_other _ _ hj, upd_same _ _ _, ?_, ?_, ?_, ?_⟩
  · intro j c hc
    by_cases hj : j = id
    · subst hj
      rw [upd_same] at hc; cases hc
      refine ⟨w.heap.size, us, upd_same _ _ _, ?_, RepL.mono he _ _ hu, fun _ => hB⟩
      show (w.heap.push _)[w.heap.size]? = _
      simp
    · rw [upd_other _ _ hj] at hc
      obtain ⟨n, vs, h1, h2, h3, h4⟩ := h.cell j c hc
      refine ⟨n, vs, by rw [upd_other _ _ hj]; exact h1, ?_, RepL.mono he _ _ h3, h4⟩
      rw [Below.heap_alloc _ _ _ (h.bound j n h1)]; exact h2
  · intro i j n hi hj
    by_cases h1 : i = id
    · by_cases h2 : j = id
      · rw [h1, h2]
      · subst h1
        rw [upd_same] at hi; rw [upd_other _ _ h2] at hj
        cases hi
        exact absurd (h.bound j _ hj) (Nat.lt_irrefl _)
    · by_cases h2 : j = id
      · subst h2
        rw [upd_same] at hj; rw [upd_other _ _ h1] at hi
        cases hj
        exact absurd (h.bound i _ hi) (Nat.lt_irrefl _)
      · rw [upd_other _ _ h1] at hi; rw [upd_other _ _ h2] at hj; exact h.inj i j n hi hj
  · intro i hi
    rw [upd_other _ _ (by omega)]; exact h.fresh i (by omega)
  · intro i n hi
    have hs : (w.alloc (.cells us.toArray b.ty)).heap.size = w.heap.size + 1 := by simp
    by_cases h1 : i = id
    · subst h1; rw [upd_same] at hi; cases hi; omega
    · rw [upd_other _ _ h1] at hi; have := h.bound i n hi; omega

def PuOk (P : Program) (pu : List (Nat × PureT)) : Prop := ∀ p ∈ pu, Plain P p.1 ∧ PureOk P p.1 p.2

theorem effIt_step (hpu : PuOk P pu) {w0 : World} {σ : Nat → Option Nat} {s : St} {a : Go.Act} {w : World} {o : Oper} {id0 : Nat} {it : It} {next : Go.Act → World → Prop} {Q : Exit → Go.Act → World → Prop} {r : Result Next}
    (hS : Sat w0 σ s a w) (hfree : σ id0 = none) (hid : id0 < s.nx) (hdst : it.dst = o.dst) (hd : o.dst.getD 0 < s.n)
    (hK : ∀ τ a' w', Ext σ τ → (∀ j, j ≠ id0 → τ j = σ j) → Sat w0 τ (it.app id0 s) a' w' → next a' w') : ∀ (e : Eff), AOk P σ w r e → EffIt pu id0 s it e → o.upon P a next Q r
  | .val x, he, h => by
    simp only [AOk] at he
    obtain ⟨v, rfl, hv⟩ := he
    simp only [EffIt] at h
    rw [Oper.upon_value]
    refine hK σ _ _ (Ext.refl _) (fun _ _ => rfl) ?_
    have : it.app id0 s = s.put o.dst x := by simp only [It.app, h.2, Mem.app, h.1, hdst]
    rw [this]; exact hS.put hd hv
  | .load id row st col n agg, he, h => by
    simp only [AOk] at he
    obtain ⟨hn, he⟩ := he
    simp only [EffIt] at h
    obtain ⟨b, hb, h0, hl, hmem, hres⟩ := h
    obtain ⟨m, vs, h1, h2, h3, h4⟩ := hS.h.cell id b hb
    rw [he m b.ty vs h1 h2 (by rw [← h3.length]; exact hl), Oper.upon_value]
    refine hK σ _ _ (Ext.refl _) (fun _ _ => rfl) ?_
    have : it.app id0 s = s.put o.dst it.res := by simp only [It.app, hmem, Mem.app, hdst]
    rw [this]
    refine hS.put hd ?_
    cases agg with
    | true =>
      simp only [if_true] at hres ⊢
      rw [hres]; simp only [Rep]
      exact ⟨_, (h3.drop _).take _, rfl⟩
    | false =>
      simp only [Bool.false_eq_true, if_false] at hres ⊢
      obtain ⟨v, hv, hr⟩ := h3.get hres
      simp only [List.getD, hv, Option.getD_some]
      exact hr
  | .store id row st col xs, he, h => by
    simp only [AOk] at he
    obtain ⟨us, hu, he⟩ := he
    simp only [EffIt] at h
    obtain ⟨b, hb, ho, h0, hl, hmem, hres⟩ := h
    obtain ⟨m, vs, h1, h2, h3, h4⟩ := hS.h.cell id b hb
    rw [he m b.ty vs h1 h2 (by rw [← h3.length, ← hu.length]; exact hl), Oper.upon_skip]
    have hh := hS.h.store hb h1 (setsA_rep _ _ (row * st + col) _ _ h3 hu) ho
    have hS' : Sat w0 σ { s with hp := upd s.hp id (some ⟨b.ty, setsA b.cs (row * st + col) xs, true⟩) } a (w.setRow m (setsA vs (row * st + col) us).toArray) :=
      hS.mono (Ext.refl _) hh (below_setRow hS.bl (h4 ho) _)
    refine hK σ _ _ (Ext.refl _) (fun _ _ => rfl) ?_
    have : it.app id0 s = ({ s with hp := upd s.hp id (some ⟨b.ty, setsA b.cs (row * st + col) xs, true⟩) } : St).put o.dst (.val undef) := by
      simp only [It.app, hmem, Mem.app, hb, ho, hres, hdst]
    rw [this]
    exact hS'.put hd (by simp only [Rep])
  | .alloc b mk, he, h => by
    simp only [AOk] at he
    obtain ⟨us, v, hu, rfl, hv⟩ := he
    simp only [EffIt] at h
    rw [Oper.upon_value]
    obtain ⟨τ, e, hoth, hτ, hh⟩ := hS.h.allocAt hS.bl.size hfree hid hu
    have hS' : Sat w0 τ { s with hp := upd s.hp id0 (some b) } a _ := hS.mono e hh (hS.bl.alloc hS.bl.size _)
    refine hK τ _ _ e hoth ?_
    have : it.app id0 s = ({ s with hp := upd s.hp id0 (some b) } : St).put o.dst (mk id0) := by
      simp only [It.app, h.1, Mem.app, h.2, hdst]
    rw [this]
    exact hS'.put hd (hv τ id0 e hτ)
  | .app .., he, h => by simp [EffIt] at h
  | .call f xs, he, h => by
    simp only [AOk] at he
    obtain ⟨us, hu, rfl⟩ := he
    simp only [EffIt] at h
    obtain ⟨g, x, hg, hgx, hres, hmem⟩ := h
    obtain ⟨h1, h2⟩ := hpu _ (assoc_mem hg)
    rw [h1.run, Oper.upon_enter]
    refine (h2 σ w xs us x hu hgx).mono ?_
    rintro e w' ⟨v, rfl, hv, hbl⟩
    have hS' : Sat w0 σ { s with hp := s.hp, nx := s.nx } a w' := hS.mono (Ext.refl _) (hS.h.below hbl) (hS.bl.trans (hbl.mono hS.bl.size))
    refine hK σ _ _ (Ext.refl _) (fun _ _ => rfl) ?_
    have : it.app id0 s = ({ s with hp := s.hp, nx := s.nx } : St).put o.dst x := by simp only [It.app, hmem, Mem.app, hres, hdst]
    rw [this]
    exact hS'.put hd hv
  | .test c e, he, h => by
    simp only [AOk] at he
    simp only [EffIt] at h
    exact effIt_step hpu hS hfree hid hdst hd hK e (he h.1) h.2
  | .bad, _, h => by simp [EffIt] at h

theorem item_step (hpu : PuOk P pu) {w0 : World} {σ : Nat → Option Nat} {s : St} {a : Go.Act} {w : World} {ops : Array Oper} {i id0 : Nat} {it : It} {K : Go.Act → World → Prop} {Q : Exit → Go.Act → World → Prop}
    (hS : Sat w0 σ s a w) (hfree : σ id0 = none) (hid : id0 < s.nx) (hi : ItemOk pu id0 P ops i it s)
    (hK : ∀ τ a' w', Ext σ τ → (∀ j, j ≠ id0 → τ j = σ j) → Sat w0 τ (it.app id0 s) a' w' → K a' w') : wpOp P ops Q i K a w := by
  obtain ⟨o, h1, h2, h3, h4⟩ := hi
  unfold wpOp
  simp only [h1]
  rcases h4 with ⟨hr, he⟩ | ⟨⟨j, want, d, k1, k2, k3, k4⟩, hres, hmem⟩
  · have hw : Region.wanted o (yielded ops a.tmps) = true := by
      unfold Runs at hr
      cases hg : o.guard with
      | none => simp [Region.wanted, hg]
      | some g =>
        obtain ⟨j, want⟩ := g
        rw [hg] at hr
        obtain ⟨d, k1, k2, k3⟩ := hr
        have hy := yielded_of k1 (by rw [hS.n]; exact k2)
        have hrep := hS.tm d
        rw [k3] at hrep; simp only [Rep] at hrep
        rw [hrep] at hy
        simp [Region.wanted, hg, hy]
    rw [if_pos hw]
    exact .inl (effIt_step hpu hS hfree hid h2 h3 hK _ (eff_ok hS.eval o) he)
  · have hy := yielded_of k2 (by rw [hS.n]; exact k3)
    have hrep := hS.tm d
    have hw : ¬ Region.wanted o (yielded ops a.tmps) = true := by
      rcases k4 with k4 | ⟨vs, k4⟩
      · rw [k4] at hrep; simp only [Rep] at hrep
        rw [hrep] at hy
        simp [Region.wanted, k1, hy]
      · rw [k4] at hrep; simp only [Rep] at hrep
        rw [hrep] at hy
        simp [Region.wanted, k1, hy]
    rw [if_neg hw]
    refine hK σ _ _ (Ext.refl _) (fun _ _ => rfl) ?_
    have : it.app id0 s = s.put o.dst (.val undef) := by simp only [It.app, hmem, Mem.app, hres, h2]
    rw [this]
    exact hS.put h3 (by simp only [Rep])
end
end Ev
end Go.Proofs.Ytmmhbianajpdgaa
