/- That the symbolic evaluator of the text Va is sound, third part: what an operation does; operations in order. -/
import Derived.Test.YtmmhbianajpdgaaVd
namespace Go.Proofs.Ytmmhbianajpdgaa
open Go.RowKit
namespace V

/-- the two ways to say how code is left -/
def ExR (τ : Env) : XE → Exit → Prop
  | .normal, .normal => True
  | .exit i, .exit j => i = j
  | .ret, .ret => True
  | .panic x, .panic ch => ∃ v, Rep τ x v ∧ ch = [{ v, recovered := false }]
  | _, _ => False
/-- the two ways to say what a call comes to -/
def OutR (τ : Env) : Out → Ending → Prop
  | .ret x, .returned v => Rep τ x v
  | .pan x, .panicked ch => ∃ v, Rep τ x v ∧ ch = [{ v, recovered := false }]
  | _, _ => False
def CRes {α : Type} (w0 : World) (σ : Env) (K : Out → Heap → Nat → Tree α) (R : α → Prop) (e : Ending) (w' : World) : Prop :=
  ∃ y τ hp' nx', Ext σ τ ∧ HRel w0.heap.size τ hp' nx' w' ∧ Below w0.heap.size w0 w' ∧ OutR τ y e ∧ (K y hp' nx').sat R
/-- what a handler of calls owes -/
def CTok (P : Program) {α : Type} (cT : CallT α) (R : α → Prop) : Prop :=
  ∀ (w0 : World) (σ : Env) (hp : Heap) (nx : Nat) (w : World) (c : Callee') (xs : List AV) (us : List Value) (K : Out → Heap → Nat → Tree α),
    HRel w0.heap.size σ hp nx w → Below w0.heap.size w0 w → RepL σ xs us → (cT c xs hp nx K).sat R →
    match c with
    | .fn f => (callFunc f us.toArray).run P w = .ok (.enter f us.toArray) w ∧ Calls' P f us.toArray w (CRes w0 σ K R)
    | .yld id => ∀ b, σ id = some b → ∃ l f tmps assign body, (Instr.yield b us.toArray).run P w = .ok (.round l f tmps assign body) w ∧ RoundX P l f tmps assign body w (CRes w0 σ K R)

section
variable {P : Program} {α : Type} {cT : CallT α} {R : α → Prop}

theorem castL_len {c d : TC} {xs : List (TCT c)} {ys : List (TCT d)} (h : castL c d xs = some ys) : ys.length = xs.length :=
  castL_rep h (Q := fun _ zs => zs.length = xs.length) rfl
theorem castL_size {c d : TC} {xs : List (TCT c)} {ys : List (TCT d)} (h : castL c d xs = some ys) : c.size = d.size :=
  castL_rep h (Q := fun e _ => c.size = e.size) rfl

/-- the source of an append -/
theorem src_rep {B : Nat} {σ : Env} {hp : Heap} {nx : Nat} {w : World} (hh : HRel B σ hp nx w) {c : TC} {st : Nat} {src : AV} {ys : List (TCT c)} {u : Value} (hc : c.size = st) (hs : srcRows hp c st src = some ys) (hu : Rep σ src u) :
    ∃ news, LR (RepD σ.mem c) ys news ∧ ((u = .slice none 0 0 ∧ ys.length = 0) ∨ ∃ ad cc, u = .slice (some ad) ys.length cc ∧ ∀ (j : Nat) (y : Value), news[j]? = some y → w.cell? (ad.add j) = some y) := by
  subst hc
  unfold srcRows at hs
  split at hs <;> try (simp at hs; done)
  · rename_i d xs
    simp only [Rep] at hu
    have hu' : RepD σ.mem (.sl c) ys [u] := castL_rep hs (Q := fun e zs => RepD σ.mem (.sl e) zs [u]) hu
    rcases slD_cases hu' with ⟨rfl, rfl⟩ | ⟨b, o, s, cap, us, rfl, h2, h3, ⟨hs4, h4⟩, h5⟩
    · exact ⟨[], by simp [LR], .inl ⟨rfl, rfl⟩⟩
    · refine ⟨us, h5, .inr ⟨⟨b, o, s⟩, cap, rfl, fun j y hj => ?_⟩⟩
      have : s = none := hs4.resolve_left fun e => by rw [e] at hj; simp at hj
      rw [this, Addr.add_lit]
      exact hh.mem _ _ _ (h4 j y hj)
  · rename_i id
    split at hs <;> try (simp at hs; done)
    rename_i A hA
    obtain ⟨v, us, h1, h2, h3, h4, h5⟩ := hh.ob id _ hA
    simp only [Rep] at hu
    have e : v = u := Option.some.inj (h1.symm.trans hu.1)
    subst e
    have hlen := castL_len hs
    have h3' : LR (RepD σ.mem c) ys us := castL_rep hs (Q := fun e zs => LR (RepD σ.mem e) zs us) h3
    refine ⟨us, h3', ?_⟩
    rcases h2.2 with ⟨rfl, k⟩ | ⟨g, cap, cur, rfl, k2, k3, k4⟩
    · exact .inl ⟨rfl, by omega⟩
    · refine .inr ⟨⟨g, 0, none⟩, cap, by rw [hlen], fun j y hj => ?_⟩
      exact h2.cells (g := g) rfl j y hj
  · rename_i id off st' len cap
    split at hs <;> try (simp at hs; done)
    rename_i b hb
    cases hbb : (Nat.beq c.size st' && Nat.ble (off + len * c.size) (lenA b.cs)) with
    | false => simp [hbb] at hs
    | true =>
      simp only [hbb, cond_true] at hs
      simp only [Bool.and_eq_true, Nat.beq_eq, Nat.ble_eq, lenA_eq, takeA_eq, dropA_eq] at hbb hs
      obtain ⟨n, vs, h1, h2, h3, h4⟩ := hh.ob id _ hb
      simp only [Rep] at hu
      obtain ⟨_, _, b', hb', rfl⟩ := hu
      rw [h1] at hb'; cases hb'
      have hcl : ((b.cs.drop off).take (len * c.size)).length = len * c.size := by simp; omega
      obtain ⟨k1, k2⟩ := decRows_rep len _ _ ys hs ((h3.drop off).take _) hcl
      refine ⟨_, k1, .inr ⟨⟨n, off, none⟩, cap, by rw [k2], fun j y hj => ?_⟩⟩
      rw [Addr.add_lit, cell_of_row w n (off + j) vs.toArray b.ty (0, 0) h2]
      rw [List.getElem?_take] at hj
      split at hj
      · rw [List.getElem?_drop] at hj; simpa using hj
      · simp at hj
  · simp only [Option.some.injEq] at hs
    subst hs
    simp only [Rep] at hu
    exact ⟨[], by simp [LR], .inl ⟨hu, rfl⟩⟩

def DidOk (hp : Heap) (σ : Env) (v : Value) : Option Nat → Prop
  | some d => hp d ≠ none ∧ ∀ n, v.ownBlock = some n ↔ σ d = some n
  | none => v.ownBlock = none
theorem app_sound {rd : Bool} {w0 : World} {σ : Env} {s : St} {a : Go.Act} {w : World} {o : Oper} {K : XE → St → Tree α} {r : Result Next} {ty : TypeId} {bytes st : Nat} {c : Option TC} {dst src : AV}
    (hS : Sat rd w0 σ s a w) (hd : o.dst.getD 0 < s.n) (he : AOk P σ w r (.app ty bytes st c dst src)) (h : (evApp o.dst s K ty bytes st c dst src).sat R) :
    ∃ v τ s' w', r = .ok (.value v) w' ∧ Ext σ τ ∧ Sat rd w0 τ s' (a.put o.dst v) w' ∧ (K .normal s').sat R := by
  obtain ⟨t, tr, v, u, i, z, hv, hu, ht, hi, hz, hst, hby, hzs, hst0, hby1, hr⟩ := he
  unfold evApp at h
  cases c with
  | none => simp [Tree.sat] at h
  | some c =>
    simp only at h
    cases hc : Nat.beq c.size st with
    | false => simp [hc, Tree.sat] at h
    | true =>
      have hc' : c.size = st := by simpa using hc
      simp only [hc, cond_true] at h
      split at h
      case h_2 => simp [Tree.sat] at h
      rename_i xs did ys hds hsr
      cases hle : decide (((xs.length + ys.length : Nat) : Int) * bytes ≤ 140737488355328) with
      | false => rw [hle, cond_false] at h; exact h.elim
      | true =>
        rw [hle, cond_true] at h
        have hle' : (xs.length + ys.length) * bytes ≤ 140737488355328 := by
          have := of_decide_eq_true hle
          omega
        have hh := hS.h
        obtain ⟨news, n1, n2⟩ := src_rep hh hc' hsr hu
        -- what is appended to
        have hdst : ∃ us, w.ownsRow w0.heap.size ty i.size v xs.length us ∧ LR (RepD σ.mem c) xs us ∧ DidOk s.hp σ v did := by
          unfold dstRows at hds
          split at hds <;> try (simp at hds; done)
          · rename_i d
            split at hds <;> try (simp at hds; done)
            rename_i A hA
            cases hty : Nat.beq A.ty ty with
            | false => simp [hty] at hds
            | true =>
              have hty' : A.ty = ty := by simpa using hty
              simp only [hty, cond_true, Option.map_eq_some_iff, Prod.mk.injEq] at hds
              obtain ⟨xs', hx', rfl, rfl⟩ := hds
              obtain ⟨v', us, h1, h2, h3, h4, h5⟩ := hh.ob d _ hA
              simp only [Rep] at hv
              have e : v' = v := Option.some.inj (h1.symm.trans hv.1)
              subst e
              have hsz := castL_size hx'
              refine ⟨us, ?_, castL_rep hx' (Q := fun e zs => LR (RepD σ.mem e) zs us) h3, by rw [hA]; simp, h5⟩
              rw [castL_len hx', hst, ← hc', ← hsz, ← hty']
              exact h2
          · simp only [Option.some.injEq, Prod.mk.injEq] at hds
            obtain ⟨rfl, rfl⟩ := hds
            simp only [Rep] at hv
            subst hv
            exact ⟨[], World.ownsRow_nil w _ _ _, by simp [LR], rfl⟩
        obtain ⟨us, d1, d2, d3⟩ := hdst
        have hnl : news.length = ys.length * i.size := by rw [hst, ← hc']; exact LR.len (fun x vs => RepD.len c x vs) n1
        have h63 : xs.length + ys.length ≤ maxLen := by
          have := Nat.le_mul_of_pos_right (xs.length + ys.length) (show 0 < bytes by omega)
          simp only [maxLen]; omega
        obtain ⟨v', w', a1, a2, a3, a4⟩ := append_own (P := P) (tr := tr) ht hi hz (by omega) (by omega) d1 (u := u) (m := ys.length) (news := news)
          (by rcases n2 with ⟨k1, k2⟩ | ⟨ad, cc, k1, k2⟩
              · exact .inl ⟨k1, k2⟩
              · exact .inr ⟨ad, cc, k1, k2⟩) hnl (LR.all (fun x vs => RepD.one c x vs) n1) (by rw [hby]; exact hle') h63 hS.bl.size
        obtain ⟨f1, f2, f3⟩ := hh.fresh s.nx (Nat.le_refl _)
        have hext : Ext σ (σ.add s.nx v'.ownBlock (some v')) := Env.add_ext f1 f2
        have hsl : ∃ aa n cap, v' = .slice aa n cap := by
          rcases a2.2 with ⟨k, _⟩ | ⟨g, cap, cur, k, _⟩
          · exact ⟨none, 0, 0, k⟩
          · exact ⟨_, _, _, k⟩
        have hsub : ∀ j o, (hpLess s.hp did) j = some o → s.hp j = some o := by
          intro j o hj
          cases did with
          | none => exact hj
          | some d => exact less_none s.hp d j o hj
        have hlive : ∀ j, (hpLess s.hp did) j ≠ none → s.hp j ≠ none := by
          intro j hj
          cases hc : (hpLess s.hp did) j with
          | none => exact absurd hc hj
          | some o => rw [hsub j o hc]; simp
        have hoth : ∀ j n, (hpLess s.hp did) j ≠ none → σ j = some n → some n ≠ v.ownBlock := by
          intro j n hj hn e
          cases did with
          | none => rw [show v.ownBlock = none from d3] at e; cases e
          | some d =>
            replace d3 : s.hp d ≠ none ∧ ∀ n, v.ownBlock = some n ↔ σ d = some n := d3
            replace hj : upd s.hp d none j ≠ none := hj
            have hjd : j ≠ d := fun e' => by subst e'; rw [upd_same] at hj; exact hj rfl
            rw [upd_other _ _ hjd] at hj
            exact hjd (hh.inj j d n hj d3.1 hn ((d3.2 n).1 e.symm))
        have hmo : ∀ n oo vv, σ.mem n oo = some vv → some n ≠ v.ownBlock := by
          intro n oo vv hv' e
          cases did with
          | none => rw [show v.ownBlock = none from d3] at e; cases e
          | some d =>
            replace d3 : s.hp d ≠ none ∧ ∀ n, v.ownBlock = some n ↔ σ d = some n := d3
            rw [hh.sep d n d3.1 ((d3.2 n).1 e.symm) oo] at hv'; cases hv'
        have hH : HRel w0.heap.size (σ.add s.nx v'.ownBlock (some v')) (upd (hpLess s.hp did) s.nx (some (.arr ⟨ty, c, xs ++ ys⟩))) (s.nx + 1) w' := by
          refine hh.putOb hext rfl hsub (by omega) (by omega) (fun j hj => upd_other _ _ hj) (fun j hj => upd_other _ _ hj) a3.size ?_ ?_ ?_ ?_
          · intro j n hj hpj hn
            exact a3.block n (hh.bound j n hn) (hoth j n hpj hn)
          · intro n oo vv hv'
            exact a3.block n (mem_old hh.mem hv') (hmo n oo vv hv')
          · refine ⟨v', us ++ news, upd_same _ _ _, ?_, LR.mono (fun x vs => RepD.mono hext.2 c x vs) (d2.append n1), by rw [hc']; exact hst0, fun n => ?_⟩
            · show World.ownsRow w' _ ty c.size v' (xs ++ ys).length (us ++ news)
              rw [hc', ← hst, List.length_append]
              exact a2
            · have : (σ.add s.nx v'.ownBlock (some v')) s.nx = v'.ownBlock := upd_same _ _ _
              rw [this]
          · intro n hn
            have hn' : v'.ownBlock = some n := by
              have : (σ.add s.nx v'.ownBlock (some v')) s.nx = v'.ownBlock := upd_same _ _ _
              rw [this] at hn; exact hn
            refine ⟨(a2.lt n hn').2, fun j hj hpj hjn => ?_, fun oo => ?_⟩
            · rcases a4 with k | k
              · exact hoth j n hpj hjn (by rw [← k]; exact hn'.symm)
              · rw [hn'] at k; cases k
                exact absurd (hh.bound j _ hjn) (Nat.lt_irrefl _)
            · cases hcm : σ.mem n oo with
              | none => rfl
              | some vv =>
                rcases a4 with k | k
                · exact absurd (by rw [← k]; exact hn'.symm) (hmo n oo vv hcm)
                · rw [hn'] at k; cases k
                  exact absurd (mem_old hh.mem hcm) (Nat.lt_irrefl _)
        have hB : Below w0.heap.size w0 w' := by
          refine hS.bl.trans ⟨a3.os, a3.tape, a3.output, a3.size, fun k hk => a3.block k (Nat.lt_of_lt_of_le hk hS.bl.size) ?_⟩
          intro e
          rcases d1.2 with ⟨rfl, _⟩ | ⟨g, cap, cur, rfl, hbg, _⟩
          · cases e
          · simp [Value.ownBlock] at e; omega
        have hS' := hS.mono hext hH hB
        refine ⟨v', _, _, w', ?_, hext, hS'.put (o := o.dst) hd (x := .own s.nx) (v := v') ?_, h⟩
        · rw [hr]
          simp only [Sem.run_bind, a1, Result.andThen_ok, Sem.run_pure]
        · simp only [Rep]
          exact ⟨upd_same _ _ _, hsl⟩

theorem evEff_sound (hc : CTok P cT R) {rd : Bool} {w0 : World} {σ : Env} {s : St} {a : Go.Act} {w : World} {o : Oper} {K : XE → St → Tree α} {next : Go.Act → World → Prop} {Q : Exit → Go.Act → World → Prop} {r : Result Next}
    (hS : Sat rd w0 σ s a w) (hd : o.dst.getD 0 < s.n) (hP : ∀ τ s' x ch w', Ext σ τ → Sat rd w0 τ s' a w' → ExR τ (.panic x) (.panic ch) → (K (.panic x) s').sat R → Q (.panic ch) a w') : ∀ (e : Eff), AOk P σ w r e → (evEff cT o.dst s K e).sat R →
    (∀ τ s' a' w', Ext σ τ → Sat rd w0 τ s' a' w' → (K .normal s').sat R → next a' w') → Oper.uponX P rd o a next Q r
  | .val x, he, h, hK => by
    simp only [AOk] at he
    obtain ⟨v, rfl, hv⟩ := he
    exact hK σ _ _ _ (Ext.refl _) (hS.put hd hv) h
  | .load id row st col n agg, he, h, hK => by
    simp only [AOk] at he
    obtain ⟨hn, he⟩ := he
    simp only [evEff] at h
    split at h <;> try (simp [Tree.sat] at h; done)
    · rename_i b hb
      obtain ⟨m, vs, h1, h2, h3, h4⟩ := hS.h.ob id _ hb
      cases hl : Nat.ble (row * st + col + n) (lenA b.cs) with
      | false => simp [hl, Tree.sat] at h
      | true =>
        simp only [hl, cond_true, takeA_eq, dropA_eq, nth_eq] at h
        simp only [Nat.ble_eq, lenA_eq] at hl
        rw [he m b.ty vs h1 h2 (by rw [← h3.length]; exact hl)]
        cases agg with
        | true =>
          simp only [cond_true] at h
          refine hK σ _ _ _ (Ext.refl _) (hS.put hd ?_) h
          simp only [if_true, Rep]
          exact ⟨_, (h3.drop _).take _, rfl⟩
        | false =>
          simp only [cond_false] at h
          have hn1 := hn rfl
          subst hn1
          have hlt : row * st + col < b.cs.length := by omega
          rw [List.getElem?_eq_getElem hlt] at h
          obtain ⟨v, hv, hr⟩ := h3.get (List.getElem?_eq_getElem hlt)
          refine hK σ _ _ _ (Ext.refl _) (hS.put hd ?_) h
          simp only [Bool.false_eq_true, if_false, List.getD, hv, Option.getD_some]
          exact hr
    · rename_i A hA
      obtain ⟨v, us, h1, h2, h3, h4, h5⟩ := hS.h.ob id _ hA
      cases hl : (Nat.beq A.c.size st && Nat.ble (col + n) st) with
      | false => simp [hl, Tree.sat] at h
      | true =>
        simp only [hl, cond_true] at h
        simp only [Bool.and_eq_true, Nat.beq_eq, Nat.ble_eq] at hl
        obtain ⟨hl1, hl2⟩ := hl
        subst hl1
        cases hr : decide (row < A.xs.length) with
        | false => simp [hr, Tree.sat] at h
        | true =>
          have hr' := of_decide_eq_true hr
          simp only [hr, cond_true, takeA_eq, dropA_eq, nth_eq] at h
          rcases h2.2 with ⟨_, k⟩ | ⟨g, cap, cur, rfl, k2, k3, k4, k5, k6, k7⟩
          · omega
          have hg := (h5 g).1 rfl
          have hul := LR.len (fun x vs => RepD.len A.c x vs) h3
          have hrow : (row + 1) * A.c.size ≤ A.xs.length * A.c.size := Nat.mul_le_mul_right _ hr'
          rw [Nat.add_mul, Nat.one_mul] at hrow
          have hcl : cur.toList.length = cap * A.c.size := by simpa using k6
          have hxc : A.xs.length * A.c.size ≤ cap * A.c.size := Nat.mul_le_mul_right _ k4
          have hrun := he g A.ty cur.toList hg (by simpa using k3) (by omega)
          have hel := LR.get (fun x vs => RepD.len A.c x vs) row (dflt A.c) h3 hr'
          have hcells : (us.drop (row * A.c.size)).take A.c.size = (cur.toList.drop (row * A.c.size)).take A.c.size := by
            rw [← k7, List.drop_take, List.take_take]
            congr 1; omega
          rw [hcells] at hel
          have hrep := enc_rep (σ := σ) _ _ _ hel
          have hdrop : ((cur.toList.drop (row * A.c.size)).take A.c.size).drop col = (cur.toList.drop (row * A.c.size + col)).take (A.c.size - col) := by
            rw [List.drop_take, List.drop_drop]
          rw [hrun]
          cases agg with
          | true =>
            simp only [cond_true] at h
            refine hK σ _ _ _ (Ext.refl _) (hS.put hd ?_) h
            simp only [if_true, Rep]
            refine ⟨_, (hrep.drop col).take n, ?_⟩
            rw [hdrop, List.take_take, Nat.min_eq_left (by omega)]
          | false =>
            simp only [cond_false] at h
            have hn1 := hn rfl
            subst hn1
            have hlt : col < (enc A.c (getA A.xs row (dflt A.c))).length := by
              rw [hrep.length]; simp only [List.length_take, List.length_drop]; omega
            rw [List.getElem?_eq_getElem hlt] at h
            obtain ⟨v, hv, hr2⟩ := hrep.get (List.getElem?_eq_getElem hlt)
            refine hK σ _ _ _ (Ext.refl _) (hS.put hd ?_) h
            have hv' : cur.toList[row * A.c.size + col]? = some v := by
              rw [List.getElem?_take] at hv
              split at hv
              · rwa [List.getElem?_drop] at hv
              · cases hv
            simp only [Bool.false_eq_true, if_false, List.getD, hv', Option.getD_some]
            exact hr2
  | .store id row st col xs, he, h, hK => by
    simp only [AOk] at he
    obtain ⟨us, hu, he⟩ := he
    simp only [evEff] at h
    split at h <;> try (simp [Tree.sat] at h; done)
    · rename_i b hb
      obtain ⟨m, vs, h1, h2, h3, h4⟩ := hS.h.ob id _ hb
      cases hl : Nat.ble (row * st + col + lenA xs) (lenA b.cs) with
      | false => simp [hl, Tree.sat] at h
      | true =>
        simp only [hl, cond_true] at h
        simp only [Nat.ble_eq, lenA_eq] at hl
        rw [he m b.ty vs h1 h2 (by rw [← h3.length, ← hu.length]; exact hl)]
        have hob : ObRel w0.heap.size σ (w.setRow m (setsA vs (row * st + col) us).toArray) id (.blk ⟨b.ty, setsA b.cs (row * st + col) xs⟩) :=
          ⟨m, _, h1, setRow_heap w m _ _ _ _ h2, setsA_rep _ _ (row * st + col) _ _ h3 hu, h4⟩
        have hh := hS.h.turn (by rw [hb]; simp) h1 _ hob
        have hS' : Sat rd w0 σ { s with hp := upd s.hp id (some (.blk ⟨b.ty, setsA b.cs (row * st + col) xs⟩)) } a (w.setRow m (setsA vs (row * st + col) us).toArray) :=
          hS.mono (Ext.refl _) hh (below_setRow hS.bl h4 _)
        exact hK σ _ _ _ (Ext.refl _) (hS'.put hd (by simp only [Rep])) h
    · rename_i A hA
      obtain ⟨v, vs, h1, h2, h3, h4, h5⟩ := hS.h.ob id _ hA
      cases hl : (Nat.beq A.c.size st && Nat.ble (col + lenA xs) st) with
      | false => simp [hl, Tree.sat] at h
      | true =>
        simp only [hl, cond_true] at h
        simp only [Bool.and_eq_true, Nat.beq_eq, Nat.ble_eq, lenA_eq] at hl
        obtain ⟨hl1, hl2⟩ := hl
        subst hl1
        cases hr : decide (row < A.xs.length) with
        | false => simp [hr, Tree.sat] at h
        | true =>
          have hr' := of_decide_eq_true hr
          simp only [hr, cond_true] at h
          split at h
          case h_2 => simp [Tree.sat] at h
          rename_i x hx
          rcases h2.2 with ⟨_, k⟩ | ⟨g, cap, cur, rfl, k2, k3, k4, k5, k6, k7⟩
          · omega
          have hg := (h5 g).1 rfl
          have hul := LR.len (fun x vs => RepD.len A.c x vs) h3
          have hrow : (row + 1) * A.c.size ≤ A.xs.length * A.c.size := Nat.mul_le_mul_right _ hr'
          rw [Nat.add_mul, Nat.one_mul] at hrow
          have hcl : cur.toList.length = cap * A.c.size := by simpa using k6
          have hxc : A.xs.length * A.c.size ≤ cap * A.c.size := Nat.mul_le_mul_right _ k4
          have hxl := hu.length
          have hrun := he g A.ty cur.toList hg (by simpa using k3) (by omega)
          have hel := LR.get (fun x vs => RepD.len A.c x vs) row (dflt A.c) h3 hr'
          have hrep := enc_rep (σ := σ) _ _ _ hel
          have hnew := dec_all hx (setsA_rep xs us col _ _ hrep hu)
          have hset := LR.set (fun x vs => RepD.len A.c x vs) row x h3 hnew hr'
          -- the cells behind the store
          have hcells : (setsA cur.toList (row * A.c.size + col) us).take (A.xs.length * A.c.size) = setsA vs (row * A.c.size) (setsA ((vs.drop (row * A.c.size)).take A.c.size) col us) := by
            rw [setsA_take _ _ _ _ (by omega), k7]
            have hsplit : vs = vs.take (row * A.c.size) ++ ((vs.drop (row * A.c.size)).take A.c.size ++ vs.drop (row * A.c.size + A.c.size)) := by
              rw [← List.drop_drop, List.take_append_drop, List.take_append_drop]
            have hp1 : (vs.take (row * A.c.size)).length = row * A.c.size := by simp; omega
            have hp2 : ((vs.drop (row * A.c.size)).take A.c.size).length = A.c.size := by simp; omega
            generalize hA1 : vs.take (row * A.c.size) = p at hsplit hp1
            generalize hA2 : (vs.drop (row * A.c.size)).take A.c.size = q at hsplit hp2 ⊢
            generalize vs.drop (row * A.c.size + A.c.size) = t at hsplit
            rw [hsplit, show row * A.c.size + col = p.length + col by omega, setsA_past, show row * A.c.size = p.length + 0 by omega, setsA_past]
            congr 1
            rw [setsA_front _ q t (by rw [setsA_length]), setsA_in q t us col (by omega)]
          rw [hrun]
          have hob : ObRel w0.heap.size σ (w.setRow g (setsA cur.toList (row * A.c.size + col) us).toArray) id (.arr ⟨A.ty, A.c, setA A.xs row x⟩) := by
            refine ⟨_, _, h1, ?_, by rw [setA_eq]; exact hset, h4, h5⟩
            refine ⟨?_, .inr ⟨g, cap, _, ?_, k2, setRow_heap w g _ _ _ _ k3, by simpa [setA_eq] using k4, k5, by simp [setsA_length]; exact hcl, ?_⟩⟩
            · simp only [setA_eq, List.length_set, setsA_length]; exact h2.1
            · simp [setA_eq]
            · simp only [setA_eq, List.length_set]
              exact hcells
          have hh := hS.h.turn (by rw [hA]; simp) hg _ hob
          have hS' := hS.mono (Ext.refl _) hh (below_setRow hS.bl k2 _)
          exact hK σ _ _ _ (Ext.refl _) (hS'.put hd (by simp only [Rep])) h
  | .alloc b mk, he, h, hK => by
    simp only [AOk] at he
    obtain ⟨us, v, hu, rfl, hv⟩ := he
    simp only [evEff] at h
    obtain ⟨τ, e, hτ, _, hh⟩ := hS.h.new (obj := .cells us.toArray b.ty) (o := .blk b) (sv := none) (fun τ e _ h1 _ =>
      ⟨w.heap.size, us, h1, by show (w.heap.push _)[w.heap.size]? = _; simp, hu.mono e, hS.bl.size⟩)
    have hS' : Sat rd w0 τ { s with hp := upd s.hp s.nx (some (.blk b)), nx := s.nx + 1 } a _ := hS.mono e hh (hS.bl.alloc hS.bl.size _)
    exact hK τ _ _ _ e (hS'.put hd (hv τ s.nx e hτ)) h
  | .list ty c xs, he, h, hK => by
    simp only [AOk] at he
    obtain ⟨us, cap, rfl, h1, h2, h3, h4, h5⟩ := he
    simp only [evEff] at h
    obtain ⟨τ, e, hτ, hsv, hh⟩ := hS.h.new (obj := .cells us.toArray ty) (o := .arr ⟨ty, c, xs⟩) (sv := some (.slice (some ⟨w.heap.size, 0, none⟩) xs.length cap)) (fun τ e _ k1 k2 =>
      ⟨_, us.take (xs.length * c.size), k2, ⟨by simp only [List.length_take, h1]; exact Nat.min_eq_left (Nat.mul_le_mul_right _ h2), .inr ⟨w.heap.size, cap, us.toArray, rfl, hS.bl.size, by show (w.heap.push _)[w.heap.size]? = _; simp, h2, h3, by simpa using h1, by simp⟩⟩,
        LR.mono (fun x vs => RepD.mono e.2 c x vs) h5, h4, fun n => by simp only [Value.ownBlock]; rw [k1]⟩)
    have hS' := hS.mono e hh (hS.bl.alloc hS.bl.size _)
    exact hK τ _ _ _ e (hS'.put hd (x := .own s.nx) (by simp only [Rep]; exact ⟨hsv, _, _, _, rfl⟩)) h
  | .app ty bytes st c dst src, he, h, hK => by
    simp only [evEff] at h
    obtain ⟨v, τ, s', w', rfl, h1, h2, h3⟩ := app_sound hS hd he h
    exact hK τ s' _ _ h1 h2 h3
  | .idx id st n, he, h, hK => by
    simp only [AOk] at he
    simp only [evEff] at h
    split at h <;> try (simp [Tree.sat] at h; done)
    rename_i A hA
    obtain ⟨v, us, h1, h2, h3, h4, h5⟩ := hS.h.ob id _ hA
    cases hl : Nat.beq A.c.size st with
    | false => simp [hl, Tree.sat] at h
    | true =>
      have hl' : A.c.size = st := by simpa using hl
      subst hl'
      simp only [hl, cond_true] at h
      cases hr : decide (0 ≤ n ∧ n < A.xs.length) with
      | false => simp [hr, Tree.sat] at h
      | true =>
        have hr' := of_decide_eq_true hr
        simp only [hr, cond_true] at h
        rcases h2.2 with ⟨_, k⟩ | ⟨g, cap, cur, rfl, k2, k3⟩
        · omega
        have hg := (h5 g).1 rfl
        rw [he g _ cap h1 hr'.1 hr'.2]
        exact hK σ _ _ _ (Ext.refl _) (hS.put hd (by simp only [Rep]; exact ⟨g, hg, rfl⟩)) h
  | .len id, he, h, hK => by
    simp only [AOk] at he
    simp only [evEff] at h
    split at h <;> try (simp [Tree.sat] at h; done)
    rename_i A hA
    obtain ⟨v, us, h1, h2, h3, h4, h5⟩ := hS.h.ob id _ hA
    rcases h2.2 with ⟨rfl, k⟩ | ⟨g, cap, cur, rfl, k2, k3, k4, k5, _⟩
    · rw [he _ _ _ h1]
      rw [k] at h
      exact hK σ _ _ _ (Ext.refl _) (hS.put hd (rep_int ⟨by simp [minK], by simp [maxK]⟩)) h
    · rw [he _ _ _ h1]
      simp only [maxLen] at k5
      exact hK σ _ _ _ (Ext.refl _) (hS.put hd (rep_int ⟨by simp only [minK]; omega, by simp only [maxK]; omega⟩)) h
  | .call f xs, he, h, hK => by
    simp only [AOk] at he
    obtain ⟨us, hu, rfl⟩ := he
    simp only [evEff] at h
    obtain ⟨h1, h2⟩ := hc w0 σ s.hp s.nx w (.fn f) xs us _ hS.h hS.bl hu h
    rw [h1]
    refine h2.mono ?_
    rintro e w' ⟨y, τ, hp', nx', h3, h4, h5, h6, h7⟩
    have hS' : Sat rd w0 τ { s with hp := hp', nx := nx' } a w' := hS.mono h3 h4 h5
    cases e with
    | returned v => cases y with
      | ret x => exact hK τ _ _ _ h3 (hS'.put hd h6) h7
      | pan x => exact h6.elim
    | panicked ch => cases y with
      | ret x => exact h6.elim
      | pan x => exact hP τ _ x ch w' h3 hS' h6 h7
    | outgrown => cases y <;> exact h6.elim
  | .round id xs, he, h, hK => by
    simp only [AOk] at he
    obtain ⟨us, b, hu, hb, rfl⟩ := he
    simp only [evEff] at h
    obtain ⟨l, f, tmps, assign, body, h1, h2⟩ := hc w0 σ s.hp s.nx w (.yld id) xs us _ hS.h hS.bl hu h b hb
    rw [h1]
    refine h2.mono ?_
    rintro e w' ⟨y, τ, hp', nx', h3, h4, h5, h6, h7⟩
    have hS' : Sat rd w0 τ { s with hp := hp', nx := nx' } a w' := hS.mono h3 h4 h5
    cases e with
    | returned v => cases y with
      | ret x => exact hK τ _ _ _ h3 (hS'.put hd h6) h7
      | pan x => exact h6.elim
    | panicked ch => cases y with
      | ret x => exact h6.elim
      | pan x => exact hP τ _ x ch w' h3 hS' h6 h7
    | outgrown => cases y <;> exact h6.elim
  | .dfr d, he, h, hK => by
    simp only [AOk] at he
    obtain ⟨D, hD, rfl⟩ := he
    simp only [evEff] at h
    cases hr : s.rd with
    | true => simp [hr, Tree.sat] at h
    | false =>
      simp only [hr, cond_false] at h
      have hrd : rd = false := hS.rd.symm.trans hr
      refine ⟨hrd, ?_⟩
      have hS' : Sat rd w0 σ { s with df := d :: s.df } { a with defers := D :: a.defers } w := ⟨hS.h, hS.tm, hS.n, .cons hD hS.df, hS.bl, hS.rd⟩
      exact hK σ _ _ _ (Ext.refl _) (hS'.put (x := .val undef) (v := undef) hd (by simp only [Rep])) (by first | exact h | (rw [hr] at *; exact h))
  | .panic x, he, h, hK => by
    simp only [AOk] at he
    obtain ⟨v, hv, rfl⟩ := he
    simp only [evEff] at h
    exact hP σ s x _ w (Ext.refl _) hS ⟨v, hv, rfl⟩ h
  | .test c e, he, h, hK => by
    simp only [AOk] at he
    simp only [evEff] at h
    cases c with
    | false => simp [Tree.sat] at h
    | true => exact evEff_sound hc hS hd hP e (he rfl) (by simpa using h) hK
  | .mapNew, _, h, _ => by simp [evEff, Tree.sat] at h
  | .mapGet .., _, h, _ => by simp [evEff, Tree.sat] at h
  | .mapSet .., _, h, _ => by simp [evEff, Tree.sat] at h
  | .bad, _, h, _ => by simp [evEff, Tree.sat] at h

theorem Sat.learn {rd : Bool} {w0 : World} {σ : Env} {s : St} {a : Go.Act} {w : World} (h : Sat rd w0 σ s a w) {d : Nat} {x : AV} (hx : Rep σ x (a.tmps.getD d undef)) : Sat rd w0 σ (s.put (some d) x) a w := by
  refine ⟨h.h, fun t => ?_, h.n, h.df, h.bl, h.rd⟩
  by_cases ht : t = d
  · subst ht
    show Rep σ (upd s.tm t x t) _
    rw [upd_same]; exact hx
  · show Rep σ (upd s.tm d x t) _
    rw [upd_other _ _ ht]; exact h.tm t

theorem yielded_of {ops : Array Oper} {a : Go.Act} {j d : Nat} (hd : (ops[j]?).bind (·.dst) = some d) (hlt : d < a.tmps.size) : yielded ops a.tmps j = match a.tmps.getD d undef with | .bool b => some b | _ => none := by
  have : a.tmps[d]? = some (a.tmps.getD d undef) := by simp [Array.getD, hlt]
  unfold yielded
  rw [hd]
  simp only [Option.bind_some, this]
  cases a.tmps.getD d undef <;> rfl

theorem evOps_step (hc : CTok P cT R) {rd : Bool} {w0 : World} {ops : Array Oper} {K : XE → St → Tree α} {Q : Exit → Go.Act → World → Prop} {next : Go.Act → World → Prop} {i : Nat} {rest : List Nat} {σ : Env} {s : St} {a : Go.Act} {w : World}
    (hS : Sat rd w0 σ s a w) (h : (evOps P cT ops (i :: rest) s K).sat R) (hP : ∀ τ s' x ch a' w', Ext σ τ → Sat rd w0 τ s' a' w' → ExR τ (.panic x) (.panic ch) → (K (.panic x) s').sat R → Q (.panic ch) a' w') (IH : ∀ τ s' a' w', Ext σ τ → Sat rd w0 τ s' a' w' → (evOps P cT ops rest s' K).sat R → next a' w') : wpOpX P rd ops Q i next a w := by
    unfold wpOpX
    simp only [evOps] at h
    cases ho : ops[i]? with
    | none => simp only [ho] at h ⊢; exact IH σ s a w (Ext.refl _) hS h
    | some o =>
      simp only [ho] at h ⊢
      cases hd : Nat.ble s.n (o.dst.getD 0) with
      | true => simp [hd, Tree.sat] at h
      | false =>
        simp only [hd, cond_false] at h
        have hd' : o.dst.getD 0 < s.n := by
          rcases Nat.lt_or_ge (o.dst.getD 0) s.n with x | x
          · exact x
          · have : Nat.ble s.n (o.dst.getD 0) = true := by simpa using x
            rw [this] at hd; simp at hd
        cases hg : o.guard with
        | none =>
          simp only [hg] at h
          rw [if_pos (by simp [Region.wanted, hg])]
          exact evEff_sound (K := fun e s' => match e with | .normal => evOps P cT ops rest s' K | e => K e s') hc hS hd' (fun τ s' x ch w' e hS' hx hk => hP τ s' x ch a w' e hS' hx hk) _ (eff_ok hS.h.mem hS.eval o) h IH
        | some g =>
          obtain ⟨j, want⟩ := g
          simp only [hg] at h
          cases hdst : (ops[j]?).bind (·.dst) with
          | none => simp [hdst, Tree.sat] at h
          | some d =>
            simp only [hdst] at h
            cases hn : Nat.ble s.n d with
            | true => simp [hn, Tree.sat] at h
            | false =>
              simp only [hn, cond_false] at h
              have hlt : d < a.tmps.size := by
                rw [hS.n]
                rcases Nat.lt_or_ge d s.n with x | x
                · exact x
                · have : Nat.ble s.n d = true := by simpa using x
                  rw [this] at hn; simp at hn
              have hy := yielded_of hdst hlt
              have hr := hS.tm d
              cases hx : s.tm d with
              | bool b =>
                rw [hx] at hr h
                simp only [Rep] at hr
                rw [hr] at hy
                simp only at hy h
                have hw : Region.wanted o (yielded ops a.tmps) = (b == want) := by simp [Region.wanted, hg, hy]
                have hL : Sat rd w0 σ (s.put (some d) (.bool b)) a w := hS.learn (by rw [hr]; simp only [Rep])
                cases b <;> cases want <;> simp only [cond_true, cond_false] at h <;> rw [hw]
                · rw [if_pos (show (false == false) = true from rfl)]
                  exact evEff_sound (K := fun e s' => match e with | .normal => evOps P cT ops rest s' K | e => K e s') hc hL hd' (fun τ s' x ch w' e hS' hx hk => hP τ s' x ch a w' e hS' hx hk) _ (eff_ok hL.h.mem hL.eval o) h IH
                · rw [if_neg (by decide)]
                  exact IH σ _ _ _ (Ext.refl _) (hL.put hd' (by simp only [Rep])) h
                · rw [if_neg (by decide)]
                  exact IH σ _ _ _ (Ext.refl _) (hL.put hd' (by simp only [Rep])) h
                · rw [if_pos (show (true == true) = true from rfl)]
                  exact evEff_sound (K := fun e s' => match e with | .normal => evOps P cT ops rest s' K | e => K e s') hc hL hd' (fun τ s' x ch w' e hS' hx hk => hP τ s' x ch a w' e hS' hx hk) _ (eff_ok hL.h.mem hL.eval o) h IH
              | val v =>
                rw [hx] at hr h
                simp only [Rep] at hr
                cases v with
                | tuple vs =>
                  rw [hr] at hy
                  simp only at hy h
                  rw [if_neg (by simp [Region.wanted, hg, hy])]
                  exact IH σ _ _ _ (Ext.refl _) (hS.put hd' (by simp only [Rep])) h
                | _ => simp [Tree.sat] at h
              | _ => rw [hx] at h; simp [Tree.sat] at h
theorem evOps_sound (hc : CTok P cT R) {rd : Bool} {w0 : World} {ops : Array Oper} {K : XE → St → Tree α} {Q : Exit → Go.Act → World → Prop} : ∀ (l : List Nat) (σ : Env) (s : St) (a : Go.Act) (w : World),
    Sat rd w0 σ s a w → (evOps P cT ops l s K).sat R → (∀ τ s' a' w' e ex, Ext σ τ → Sat rd w0 τ s' a' w' → ExR τ e ex → (K e s').sat R → Q ex a' w') → wpOpsX P rd ops Q l a w
  | [], σ, s, a, w, hS, h, hK => hK σ s a w .normal .normal (Ext.refl _) hS trivial h
  | i :: rest, σ, s, a, w, hS, h, hK => by
    show wpOpX P rd ops Q i (wpOpsX P rd ops Q rest) a w
    exact evOps_step hc hS h (fun τ s' x ch a' w' e hS' hx hk => hK τ s' a' w' _ _ e hS' hx hk) fun τ s' a' w' e hS' h' => evOps_sound hc rest τ s' a' w' hS' h' (fun τ' s2 a2 w2 x2 ex2 e2 => hK τ' s2 a2 w2 x2 ex2 (e.trans e2))

end
end V
end Go.Proofs.Ytmmhbianajpdgaa
